/-
  Words, plain lemmas and walks, merged: Fp, Fq, Fr, Fs, Fu, Fx, Pe, Cj.
-/
import Derived.Test.YtaclgmhinljkbaaGreatDoorZph
import Derived.Test.YtaclgmhinljkbaaGreatDoorZpf
import Derived.Deep.CutBlock
import Derived.Test.YtaclgmhinljkbaaGreatDoorZpe
set_option linter.unusedVariables false
set_option linter.unusedSimpArgs false
namespace Go.Proofs.YtaclgmhinljkbaaGreatDoor
open Go.RowKit Go.Sort Go.Shelf Go.Lib

/-- The letters. -/
def ltB : ByteArray := ⟨#[48, 49, 50, 51, 52, 53, 54, 55, 56, 57, 97, 98, 99, 100, 101, 102]⟩
def wdA (p : ByteArray) (a : Nat) : ByteArray := p ++ ltB.extract a (a + 1)
/-- A word of the list is an end. -/
def badA (l : List ByteArray) (w : ByteArray) : Bool := l.any (fun u => Lib.hasSuffix w.data.toList u.data.toList)
/-- Where a state stands. -/
def plF (st : List ByteArray) : Nat → ByteArray → Option Int
  | 0, _ => none
  | k + 1, u => if u = st.getD k (⟨#[]⟩ : ByteArray) then some (k : Int) else plF st k u
theorem plF_some {st : List ByteArray} {u : ByteArray} : ∀ k, k ≤ st.length → u ∈ st.take k → (plF st k u).isSome = true
  | 0, _, h => by simp at h
  | k + 1, hk, h => by
    rw [plF]
    split
    · rfl
    · rename_i hne
      rw [List.take_succ_eq_append_getElem (by omega : k < st.length), List.mem_append, List.mem_singleton] at h
      rcases h with h | h
      · exact plF_some k (by omega) h
      · exact absurd (by rw [h]; simp [List.getD, List.getElem?_eq_getElem (by omega : k < st.length)]) hne
theorem plF_bd {st : List ByteArray} {u : ByteArray} {t : Int} : ∀ k, plF st k u = some t → 0 ≤ t ∧ t < k
  | 0, h => by simp [plF] at h
  | k + 1, h => by
    rw [plF] at h
    split at h
    · cases h; omega
    · have := plF_bd k h; omega
/-- The first end of a word that is a state. -/
def tgR (f : ByteArray → Option Int) : Nat → ByteArray → Int
  | 0, _ => 0
  | n + 1, r => match f r with
    | some t => t
    | none => tgR f n (r.extract 1 r.size)
def tgA (st : List ByteArray) (w : ByteArray) : Int := tgR (plF st st.length) (w.size + 1) w
theorem tgR_some {f : ByteArray → Option Int} {n : Nat} {r : ByteArray} {t : Int} (h : f r = some t) : tgR f (n + 1) r = t := by simp [tgR, h]
theorem tgR_none {f : ByteArray → Option Int} {n : Nat} {r : ByteArray} (h : f r = none) : tgR f (n + 1) r = tgR f n (r.extract 1 r.size) := by simp [tgR, h]
/-- The edges of a state, for the first letters. -/
def edRow (l st : List ByteArray) (s : Nat) : Nat → List Ed
  | 0 => []
  | a + 1 => edRow l st s a ++ (if badA l (wdA (st.getD s (⟨#[]⟩ : ByteArray)) a) = true then [] else [⟨(s : Int), (a : Int), tgA st (wdA (st.getD s (⟨#[]⟩ : ByteArray)) a)⟩])
def edAll (l st : List ByteArray) (q : Nat) : Nat → List Ed
  | 0 => []
  | s + 1 => edAll l st q s ++ edRow l st s q
theorem edRow_len (l st : List ByteArray) (s : Nat) : ∀ a, (edRow l st s a).length ≤ a
  | 0 => by simp [edRow]
  | a + 1 => by
    have := edRow_len l st s a
    rw [edRow, List.length_append]
    split <;> simp <;> omega
theorem edAll_len (l st : List ByteArray) (q : Nat) : ∀ s, (edAll l st q s).length ≤ s * q
  | 0 => by simp [edAll]
  | s + 1 => by
    have h1 := edAll_len l st q s; have h2 := edRow_len l st s q
    rw [edAll, List.length_append, Nat.add_mul]; omega
/-- What Graph returns. -/
def graphB (q : Int) (l : List ByteArray) : Gr × Int :=
  if chkF q l ≠ 0 then (⟨0, 0, []⟩, 1) else if 64 < (stA l).length then (⟨0, 0, []⟩, 4) else
  if (makeA q (stA l).length (edAll l (stA l) q.toNat (stA l).length)).2 ≠ 0 then (⟨0, 0, []⟩, (makeA q (stA l).length (edAll l (stA l) q.toNat (stA l).length)).2) else
  ((essA (makeA q (stA l).length (edAll l (stA l) q.toNat (stA l).length)).1).1, (essA (makeA q (stA l).length (edAll l (stA l) q.toNat (stA l).length)).1).2.2)

theorem fGraph1_any (s u : ByteArray) (b : Nat) (w : World) (hs : s.size ≤ 1000000) (hb : w.cell? ⟨b, 0, none⟩ = some (.string s)) :
    Calls Tryz.prog 20 #[.string u, .pointer (some ⟨b, 0, none⟩)] w fun e w' => e = .returned (.bool (Lib.hasSuffix s.data.toList u.data.toList)) ∧ w' = w := by
  have HS := hidI (Tryz.strings_HasSuffix s u w (by omega))
  generalize Lib.hasSuffix s.data.toList u.data.toList = r at *
  go_enter Tryz.func20, Tryz.ntmps20
  go_wp2_with fail
  refine HS.out.mono ?_
  rintro e w' ⟨rfl, hw⟩
  go_wp2
  go_ret
  first | exact ⟨rfl, hw⟩ | exact ⟨rfl, rfl⟩
theorem fbad_any (l : List ByteArray) (p : Option Addr) (c : Nat) (s : ByteArray) (b : Nat) (w : World) (hin : Sl w Value.string p l) (hl : l.length ≤ 9223372036854775807) (hs : s.size ≤ 1000000) (hb : VRow w b 9 [.string s]) :
    Calls Tryz.prog 19 #[.slice p l.length c, .func (.func 20) #[] #[.pointer (some ⟨b, 0, none⟩)]] w fun e w' => e = .returned (.bool (badA l s)) ∧ Dr w w' := by
  rcases Nat.eq_zero_or_pos l.length with h0 | h0
  · have : l = [] := List.length_eq_zero_iff.1 h0
    subst this
    refine (Tryz.slices_ContainsFunc_empty (α := ByteArray) p c _ w).mono ?_
    rintro e w' ⟨rfl, rfl⟩
    exact ⟨rfl, Dr.refl _⟩
  · obtain ⟨b1, off, rfl, hb1, hc⟩ := hin.get 0 h0
    refine (Tryz.slices_ContainsFunc Value.string (fun u => Lib.hasSuffix s.data.toList u.data.toList) 20 #[.pointer (some ⟨b, 0, none⟩)] (enters_of Tryz.func20 (by kernel_rfl) rfl) b1 off l.length c l w ?_ (Nat.le_refl _) hl ?_).mono ?_
    · intro W x hW
      exact (fGraph1_any s x b W hs ((hb.below hW hb.lt).at 0 rfl)).mono (fun e w' h => ⟨h.1, 0, h.2⟩)
    · intro j hj
      rw [hc j hj, getElem!_pos _ j hj]
    · rintro e w' ⟨rfl, q, rfl⟩
      rw [List.take_length]
      exact ⟨rfl, ⟨q, rfl⟩⟩
/-! ### The examples -/
def b11 : ByteArray := ⟨#[49, 49]⟩
def b0 : ByteArray := ⟨#[48]⟩
def b1 : ByteArray := ⟨#[49]⟩
theorem graph_11 : graphB 2 [b11] = (⟨2, 2, [⟨0, 0, 0⟩, ⟨0, 1, 1⟩, ⟨1, 0, 0⟩]⟩, 0) := by kernel_rfl
theorem graph_01 : graphB 2 [b0, b1] = (⟨2, 0, []⟩, 0) := by kernel_rfl
end Go.Proofs.YtaclgmhinljkbaaGreatDoor
namespace Go.Proofs.YtaclgmhinljkbaaGreatDoor
open Go.RowKit Go.Sort Go.Shelf Go.Lib

/-- A graph and an error, the edges of the call's own or none. -/
def RetGf (x : Gr × Int) (w : World) (e : Ending) (w' : World) : Prop := ∃ p m c, e = .returned (.tuple #[.agg #[.int .i64 x.1.q, .int .i64 x.1.n, .slice p m c], .int .i64 x.2]) ∧ m = x.1.es.length ∧ Sg 3 w' edE p x.1.es ∧ RowKit.Below w.heap.size w w'
theorem RetGf.of {x : Gr × Int} {q n k : Int} {p : Option Addr} {m c : Nat} {es : List Ed} {w w' : World} (hx : x = (⟨q, n, es⟩, k)) (hm : m = es.length) (hs : Sg 3 w' edE p es) (hB : RowKit.Below w.heap.size w w') :
    RetGf x w (.returned (.tuple #[.agg #[.int .i64 q, .int .i64 n, .slice p m c], .int .i64 k])) w' := by subst hx; exact ⟨p, m, c, rfl, hm, hs, hB⟩
/-- Words of the call's own. -/
def OwS (B : Nat) (l : List ByteArray) (v : Value) (W : World) : Prop := W.ownsRow B 9 1 v l.length (l.map Value.string)

theorem chk2_all {q : Int} : ∀ {l : List ByteArray} {pv : Option ByteArray}, chk2 q pv l = 0 → ∀ u ∈ l, oneA q u = 0
  | [], _, _, u, hu => by simp at hu
  | s :: l, pv, h, u, hu => by
    unfold chk2 at h
    by_cases hs : oneA q s = 0
    · rw [if_neg (by simpa using hs)] at h
      have h' : chk2 q (some s) l = 0 := by
        cases pv with
        | none => simpa using h
        | some a =>
          by_cases h0 : 0 ≤ ordB a s
          · simp [h0] at h
          · simpa [h0] using h
      rcases List.mem_cons.1 hu with e | e
      · subst e; exact hs
      · exact chk2_all h' u e
    · rw [if_pos hs] at h; exact absurd h hs
theorem chkF_ok {q : Int} {l : List ByteArray} (h : chkF q l = 0) : 1 ≤ q ∧ q ≤ 16 ∧ l.length ≤ 64 ∧ ∀ u ∈ l, oneA q u = 0 := by
  unfold chkF at h
  by_cases h1 : q < 1 ∨ 16 < q
  · rw [if_pos h1] at h; omega
  · rw [if_neg h1] at h
    by_cases h2 : 64 < l.length
    · rw [if_pos h2] at h; omega
    · rw [if_neg h2] at h
      exact ⟨by omega, by omega, by omega, chk2_all h⟩
theorem oneA_size {q : Int} {u : ByteArray} (h : oneA q u = 0) : u.size ≤ 32 := by
  unfold oneA at h
  split at h
  · omega
  · split at h
    · omega
    · omega

theorem lookK {W : World} {b : Nat} {f : ByteArray → Option Int} (h : Mp Value.string (fun s => s.size ≤ maxLen) (Value.int .i64) W b f) (u : ByteArray) (hu : u.size ≤ maxLen) :
    (Instr.lookup 48 (.map (some b)) (.string u) true).run Tryz.prog W = .ok (.tuple #[.int .i64 ((f u).getD 0), .bool (f u).isSome]) W := by
  have := h.look (t := 48) keyS Tryz.underlying48 (z := .int .i64 0) (by kernel_rfl) u hu true
  cases hf : f u <;> rw [hf] at this <;> exact this
def strSz : Value → Nat
  | .string r => r.size
  | _ => 0
theorem wdA_size (x : ByteArray) (a : Nat) (h : x.size ≤ 32) : (wdA x a).size ≤ 48 := by
  unfold wdA
  have h1 : (x ++ ltB.extract a (a + 1)).size = x.size + (ltB.extract a (a + 1)).size := ByteArray.size_append
  have h2 : (ltB.extract a (a + 1)).size ≤ 16 := by
    have h3 : ltB.size = 16 := rfl
    simp [h3]; omega
  omega
theorem makeA_len (q n : Int) (l : List Ed) : (makeA q n l).1.es.length ≤ l.length := by
  have := norm_len l l.length (Nat.le_refl _)
  rw [List.take_length] at this
  unfold makeA
  split
  · exact this
  · simp
/-- Edges of the call's own. -/
def OwE (B : Nat) (l : List Ed) (v : Value) (W : World) : Prop := W.ownsRow B 42 3 v l.length (cat l)
theorem candF_mem {l : List ByteArray} {k : Nat} {u : ByteArray} (h : u ∈ candF l k) : u = (⟨#[]⟩ : ByteArray) ∨ ∃ x ∈ l, u.size ≤ x.size := by
  unfold candF preF at h
  rcases List.mem_cons.1 h with h | h
  · exact .inl h
  · obtain ⟨x, hx, hu⟩ := List.mem_flatMap.1 h
    obtain ⟨n, hn, rfl⟩ := List.mem_map.1 (List.mem_filter.1 hu).1
    refine .inr ⟨x, List.mem_of_mem_take hx, by simp; omega⟩
theorem stA_nil (l : List ByteArray) : (⟨#[]⟩ : ByteArray) ∈ stA l := mem_insAll.2 (by simp [candF])
theorem stA_size {l : List ByteArray} (h : ∀ u ∈ l, u.size ≤ 32) : ∀ u ∈ stA l, u.size ≤ 32 := fun u hu => by
  rcases candF_mem (mem_insAll.1 hu) with e | ⟨x, hx, he⟩
  · subst e; decide
  · have := h x hx; omega
def KeyP (W : World) (b : Nat) (f : ByteArray → Option Int) : Prop := Mp Value.string (fun s => s.size ≤ maxLen) (Value.int .i64) W b f
theorem plF_succ {st : List ByteArray} {k : Nat} (h : k < st.length) (u : ByteArray) : mset (plF st k) st[k] (k : Int) u = plF st (k + 1) u := by
  unfold mset
  rw [plF]
  simp [List.getD, List.getElem?_eq_getElem h]

set_option maxRecDepth 100000 in
set_option maxHeartbeats 4000000 in
theorem fGraph_any (q : Int) (l : List ByteArray) (p : Option Addr) (c : Nat) (w : World) (hin : Sl w Value.string p l) (hl : l.length ≤ 9223372036854775807) (hz : Sz l) (hm : Mx w) :
    Calls Tryz.prog 7 #[.int .i64 q, .slice p l.length c] w (RetGf (graphB q l) w) := by
  have HIN := hidI hin; have HZ := hidI hz; have HMX := hidI hm
  have hB0 : RowKit.Below w.heap.size w (w.alloc (.cells #[.int .i64 0, .int .i64 0, .slice none 0 0] 29)) := (RowKit.Below.refl _ _).alloc (Nat.le_refl _) _
  have b0 : VRow (w.alloc (.cells #[.int .i64 0, .int .i64 0, .slice none 0 0] 29)) w.heap.size 29 [.int .i64 0, .int .i64 0, .slice none 0 0] := VRow.new w _ _
  have HC := hidI (fCheck_any q l p c _ (hin.below hB0) hl hz)
  clear hin hz hm
  obtain ⟨r, hr⟩ : ∃ r, chkF q l = r := ⟨_, rfl⟩
  rw [hr] at HC
  have HR := hidI hr
  clear hr
  by_cases hr0 : r = 0
  · subst hr0
    obtain ⟨i0, hi0, hz0, hz1, hz3⟩ := info_parts infoStrF
    obtain ⟨hq1, hq2, hl64, hone⟩ := chkF_ok HR.out
    have H32 : Hid (∀ u ∈ l, u.size ≤ 32) := fun u hu => oneA_size (hone u hu)
    clear hone
    go_enter Tryz.func7, Tryz.ntmps7
    go_wp2_with fail
    refine HC.out.mono ?_
    rintro e w1 ⟨rfl, hB1⟩
    have b1 := b0.below hB1 b0.lt
    have x1 := hB0.trans (hB1.mono hB0.size)
    have hbz := b1.lt
    clear b0 hB0 hB1
    go_upto_block 0 with fail
    have o1 := own_one1 w1 (⟨#[]⟩ : ByteArray) (B := w.heap.size + 1) (by omega)
    have b2 := b1.alloc (.cells #[.string (⟨#[]⟩ : ByteArray)] 9)
    have x2 := x1.alloc x1.size (.cells #[.string (⟨#[]⟩ : ByteArray)] 9)
    go_cut [6] (fun v6 W => OwS (w.heap.size + 1) (candF l l.length) v6 W ∧ (candF l l.length).length ≤ 100000 ∧ VRow W w.heap.size 29 [.int .i64 0, .int .i64 0, .slice none 0 0] ∧ RowKit.Below w.heap.size w W)
    case first =>
      go_wp2_with fail
      go_loopw [6, 33] (fun v6 iv W => ∃ k : Nat, k ≤ l.length ∧ iv = .int .i64 k ∧ OwS (w.heap.size + 1) (candF l k) v6 W ∧ (candF l k).length ≤ k * 32 + 1 ∧ VRow W w.heap.size 29 [.int .i64 0, .int .i64 0, .slice none 0 0] ∧ RowKit.Below w.heap.size w W) (fun _ iv _ => l.length - (intOf iv).toNat)
      case atStart => exact ⟨0, by omega, rfl, o1, by simp [candF], b2, x2⟩
      case round =>
        clear o1 b2 x2 b1 x1 hbz
        obtain ⟨k, hk, rfl, ho, hcl, hb, hB⟩ := hrel
        by_cases hlt : k < l.length
        · have hltI : (k : Int) < (l.length : Int) := by omega
          obtain ⟨bb, oo, rfl, hb1, hc1⟩ := (HIN.out.below hB).get k hlt
          have e0 := hc1 k hlt
          have hsz := H32.out _ (List.getElem_mem hlt)
          have HN := hidI (candF_succ l k hlt)
          generalize l[k] = x at *
          generalize candF l k = cs at *
          clear hc1
          obtain ⟨wo, hwo⟩ : ∃ wo : World, wo = wr := ⟨_, rfl⟩
          go_wp2_with fail
          go_loopw [6, 39] (fun v6 iv W => ∃ n : Nat, n ≤ x.size ∧ iv = .int .i64 n ∧ OwS (w.heap.size + 1) (cs ++ preF l x n) v6 W ∧ VRow W w.heap.size 29 [.int .i64 0, .int .i64 0, .slice none 0 0] ∧ RowKit.Below w.heap.size w W) (fun _ iv _ => x.size - (intOf iv).toNat)
          case atStart => exact ⟨0, by omega, rfl, by simpa [preF] using ho, hb, hB⟩
          case round =>
            clear ho hb hB hb1 e0 hwo
            obtain ⟨n, hn, rfl, ho, hb, hB⟩ := hrel
            have hpl := preF_len l x n
            by_cases hlt2 : n < x.size
            · have hI2 : (n : Int) < (x.size : Int) := by omega
              have hI3 : (n : Int) ≤ (x.size : Int) := by omega
              have hex : (x.extract 0 n).size ≤ 32 := by simp; omega
              have HP := hidI (preF_succ l x n)
              have HA := hidI (fallow_any l (some ⟨bb, oo, none⟩) c (x.extract 0 n) _ (HIN.out.below hB) (by omega) (HMX.out.below hB) (by omega))
              generalize alwA l (x.extract 0 n) = r at *
              clear HN
              go_wp2_with fail
              refine HA.out.mono ?_
              rintro e w2 ⟨rfl, hBA⟩
              have hb2 := hb.below hBA hb.lt
              have hB2 := hB.trans (hBA.mono hB.size)
              have ho2 : OwS (w.heap.size + 1) (cs ++ preF l x n) u6 w2 := ho.below hBA
              have hbl := hb2.lt
              clear hb hB ho HA hBA
              cases r
              · have HQ : Hid (preF l x (n + 1) = preF l x n) := by rw [Hid, HP.out]; simp
                go_wp2_with fail
                go_roundw
                case rel => exact ⟨n + 1, by omega, by go_num, by rw [HQ.out]; exact ho2, hb2, hB2⟩
                case measure => simp [intOf]; omega
              · have HQ : Hid (cs ++ preF l x (n + 1) = cs ++ preF l x n ++ [x.extract 0 n]) := by rw [Hid, HP.out]; simp
                have hcl2 : (cs ++ preF l x n).length ≤ 100000 := by rw [List.length_append]; omega
                have hnew := cell_one_at w2 (.string (x.extract 0 n)) 9 w2.heap.size rfl
                have hlw := ho2.lt
                have hne7 : some w.heap.size ≠ u6.ownBlock := fun e => by have := (hlw _ e.symm).1; omega
                have hownA := ho2.alloc (.cells #[.string (x.extract 0 n)] 9)
                generalize cs ++ preF l x n = M at *
                go_wp2_with (at_builtin; refine wpList_append_own _ rfl _ _ 22 rfl (w.heap.size + 1) 9 i0 (.string ⟨#[]⟩) 1 16 Tryz.underlying22 hi0 hz0 hz1 hz3 rfl (by decide) _ _ _ rfl hownA ⟨w2.heap.size, 0, none⟩ 1 1 [.string (x.extract 0 n)] rfl rfl hnew (by simp [Value.oneCell']) (by simp [maxLen]; omega) (by omega) (by rw [World.size_alloc]; omega) ?_; intro v' w4 hown' hgrow _)
                go_roundw
                case rel => exact ⟨n + 1, by omega, by go_num, by unfold OwS; rw [HQ.out, List.length_append, List.map_append]; exact hown', (hb2.alloc _).grown hgrow hne7, (hB2.alloc hB2.size _).grown hgrow (by simp; omega) (fun j e => by have := (hlw j e).1; omega)⟩
                case measure => simp [intOf]; omega
            · obtain rfl : n = x.size := by omega
              have hI2 : ¬ (x.size : Int) < (x.size : Int) := by omega
              go_wp2_with fail
              go_roundw
              case rel => exact ⟨k + 1, by omega, by go_num, by rw [HN.out]; exact ho, by rw [HN.out, List.length_append]; omega, hb, hB⟩
              case measure => simp [intOf]; omega
        · obtain rfl : k = l.length := by omega
          have hltI : ¬ (l.length : Int) < (l.length : Int) := by omega
          go_wp2_with fail
          go_meet
          exact ⟨ho, by omega, hb, hB⟩
    case rest =>
      obtain ⟨ho, hcl, hb, hB⟩ := hcut
      clear o1 b2 x2 b1 x1
      obtain ⟨qn, rfl⟩ := Int.eq_ofNat_of_zero_le (show 0 ≤ q by omega)
      have hbl := hb.lt
      go_wp2_with fail
      refine (sortB_own (candF l l.length) (w.heap.size + 1) _ _ _ ho hcl).mono ?_
      rintro e w2 ⟨rfl, ho2, G2⟩
      have hb2 := hb.grown G2 (fun e => by have := (ho.lt _ e.symm).1; omega)
      have hB2 := hB.grown G2 hB.size (fun j e => by have := (ho.lt j e).1; omega)
      clear ho hb hB
      go_wp2_with fail
      refine (compactB_any _ (w.heap.size + 1) _ _ w2 ho2 (by omega) (compact_lenB _)).mono ?_
      rw [sort_insAll, show insAll (candF l l.length) = stA l from rfl]
      rintro e w3 ⟨v3, rfl, ho3, G3⟩
      have hb3 := hb2.grown G3 (fun e => by have := (ho2.lt _ e.symm).1; omega)
      have hB3 := hB2.grown G3 hB2.size (fun j e => by have := (ho2.lt j e).1; omega)
      clear ho2 hb2 hB2 hcl
      have H0 := hidI (stA_nil l)
      have HS32 := hidI (stA_size H32.out)
      have HG : Hid (graphB (qn : Int) l = if chkF qn l ≠ 0 then (⟨0, 0, []⟩, 1) else if 64 < (stA l).length then (⟨0, 0, []⟩, 4) else
        if (makeA qn (stA l).length (edAll l (stA l) qn (stA l).length)).2 ≠ 0 then (⟨0, 0, []⟩, (makeA qn (stA l).length (edAll l (stA l) qn (stA l).length)).2) else
        ((essA (makeA qn (stA l).length (edAll l (stA l) qn (stA l).length)).1).1, (essA (makeA qn (stA l).length (edAll l (stA l) qn (stA l).length)).1).2.2)) := rfl
      rw [if_neg (by rw [HR.out]; simp)] at HG
      generalize stA l = st at *
      obtain ⟨p6, c6, rfl, hs6⟩ := own_sl ho3
      clear ho3
      by_cases h64 : 64 < st.length
      · rw [if_pos h64] at HG
        have h64I : (64 : Int) < (st.length : Int) := by omega
        have z0 := hb3.frozen 0; have z1 := hb3.frozen 1; have z2 := hb3.frozen 2
        have f0 := hb3.at 0 rfl; have f1 := hb3.at 1 rfl; have f2 := hb3.at 2 rfl
        go_wp2
        have r6 := VRow.set (i := 2) (.slice none 0 0) (VRow.set (i := 1) (.int .i64 0) (VRow.set (i := 0) (.int .i64 0) hb3))
        have y0 := r6.at 0 rfl; have y1 := r6.at 1 rfl; have y2 := r6.at 2 rfl
        refine bodyPost_ret (v := .tuple #[.agg #[.int .i64 0, .int .i64 0, .slice none 0 0], .int .i64 4]) (by simp [results, Tryz.results7, go_sem, y0, y1, y2]) rfl ?_
        exact RetGf.of HG.out rfl (Sg.nil _ _ _ _) (((hB3.setCell (Nat.le_refl _) _).setCell (Nat.le_refl _) _).setCell (Nat.le_refl _) _)
      · rw [if_neg h64] at HG
        have h64I : ¬ (64 : Int) < (st.length : Int) := by omega
        have hmm := @run_makeMap Tryz.prog
        go_wp2_with fail
        have hM0 : KeyP (w3.alloc (.map #[] 0)) w3.heap.size (plF st 0) := Mp.made w3
        have hb4 := hb3.alloc (.map #[] 0)
        have hB4 := hB3.alloc hB3.size (.map #[] 0)
        have hs4 := hs6.below ((RowKit.Below.refl w3.heap.size w3).alloc (Nat.le_refl _) (.map #[] 0))
        have hbl3 := hb3.lt
        have hz3 : w3.heap.size < (w3.alloc (.map #[] 0)).heap.size := by simp
        go_loopw [66] (fun iv W => ∃ k : Nat, k ≤ st.length ∧ iv = .int .i64 k ∧ KeyP W w3.heap.size (plF st k) ∧ Sl W Value.string p6 st ∧ VRow W w.heap.size 29 [.int .i64 0, .int .i64 0, .slice none 0 0] ∧ RowKit.Below w.heap.size w W ∧ w3.heap.size < W.heap.size) (fun iv _ => st.length - (intOf iv).toNat)
        case atStart => exact ⟨0, by omega, rfl, hM0, hs4, hb4, hB4, hz3⟩
        case round =>
          clear hM0 hb4 hB4 hs4 hz3
          obtain ⟨k, hk, rfl, hM, hs, hb, hB, hzW⟩ := hrel
          by_cases hlt : k < st.length
          · have hltI : (k : Int) < (st.length : Int) := by omega
            obtain ⟨bb, oo, rfl, hb1, hc1⟩ := hs.get k hlt
            have e0 := hc1 k hlt
            have HN := hidI (plF_succ hlt)
            have hsz := HS32.out _ (List.getElem_mem hlt)
            obtain ⟨w', hrun, hM', hT⟩ := hM.store (t := 48) keyS Tryz.underlying48 st[k] (by unfold maxLen; omega) (k : Int)
            have hne : bb ≠ w3.heap.size := fun e => by
              obtain ⟨es, clock, hmb, _⟩ := hM
              rw [e] at e0
              simp [World.cell?, hmb] at e0
            have hs' : Sl w' Value.string (some ⟨bb, oo, none⟩) st := .inr ⟨bb, oo, rfl, Nat.lt_of_lt_of_le hb1 hT.grown.size, fun i hi => by
              rw [← hc1 i hi]
              exact World.cell?_of_block (a := ⟨bb, oo + i, none⟩) (hT.grown.block bb hb1 (fun e => hne (Option.some.inj e)))⟩
            have hb' := hb.grown hT.grown (fun e => by have := Option.some.inj e; omega)
            have hB' := hB.grown hT.grown hB.size (fun j e => by have := Option.some.inj e; omega)
            have hz' := hT.grown.size
            generalize st[k] = x at *
            clear hc1
            go_wp2_with fail
            go_roundw
            case rel => exact ⟨k + 1, by omega, by go_num, Mp.congr hM' HN.out, hs', hb', hB', by omega⟩
            case measure => simp [intOf]; omega
          · obtain rfl : k = st.length := by omega
            have hltI : ¬ (st.length : Int) < (st.length : Int) := by omega
            obtain ⟨w4, rfl⟩ : ∃ w4 : World, w4 = wr := ⟨_, rfl⟩
            obtain ⟨j0, hj0, hy0, hy1, hy2⟩ := info_parts infoE
            have HM := hidI hM; have HS := hidI hs; have HBX := hidI hb; have HB := hidI hB
            clear hM hs hb hB
            go_upto_block 6 with fail
            go_cut [13] (fun v13 W => OwE w4.heap.size (edAll l st qn st.length) v13 W ∧ RowKit.Below w4.heap.size w4 W)
            case first =>
              go_wp2_with fail
              go_loopw [13, 77] (fun v13 iv W => ∃ s : Nat, s ≤ st.length ∧ iv = .int .i64 s ∧ OwE w4.heap.size (edAll l st qn s) v13 W ∧ RowKit.Below w4.heap.size w4 W) (fun _ iv _ => st.length - (intOf iv).toNat)
              case atStart => exact ⟨0, by omega, rfl, World.ownsRow_nil _ _ _ _, RowKit.Below.refl _ _⟩
              case round =>
                obtain ⟨s, hs, rfl, ho, hB⟩ := hrel
                by_cases hlt2 : s < st.length
                · have hltI2 : (s : Int) < (st.length : Int) := by omega
                  obtain ⟨bb, oo, rfl, hb1, hc1⟩ := (HS.out.below hB).get s hlt2
                  have e0 := hc1 s hlt2
                  have hsz := HS32.out _ (List.getElem_mem hlt2)
                  have HGD : Hid (st.getD s (⟨#[]⟩ : ByteArray) = st[s]) := by unfold Hid; simp [List.getD, List.getElem?_eq_getElem hlt2]
                  have HA := hidI (show edAll l st qn (s + 1) = edAll l st qn s ++ edRow l st s qn from rfl)
                  have hEl : (edAll l st qn s).length ≤ 64 * 16 := Nat.le_trans (edAll_len l st qn s) (Nat.mul_le_mul (by omega) (by omega))
                  generalize st[s] = x at *
                  generalize edAll l st qn s = es at *
                  clear hc1
                  go_wp2_with fail
                  go_loopw [13, 83] (fun v13 iv W => ∃ a : Nat, a ≤ qn ∧ iv = .int .i64 a ∧ OwE w4.heap.size (es ++ edRow l st s a) v13 W ∧ RowKit.Below w4.heap.size w4 W) (fun _ iv _ => qn - (intOf iv).toNat)
                  case atStart => exact ⟨0, by omega, rfl, by simpa [edRow] using ho, hB⟩
                  case round =>
                    clear ho hB hb1 e0
                    obtain ⟨a, ha, rfl, ho, hB⟩ := hrel
                    by_cases hlt3 : a < qn
                    · have hltI3 : (a : Int) < (qn : Int) := by omega
                      have hI1 : (a : Int) ≤ (a : Int) + 1 := by omega
                      have hI2 : (a : Int) + 1 ≤ 16 := by omega
                      have hI3 : ((a : Int) + 1).toNat = a + 1 := by omega
                      have hwz := wdA_size x a hsz
                      have r17 : VRow (wr.alloc (.cells #[.string (wdA x a)] 9)) wr.heap.size 9 [.string (wdA x a)] := VRow.new wr _ _
                      have hB1 : RowKit.Below w4.heap.size w4 (wr.alloc (.cells #[.string (wdA x a)] 9)) := hB.alloc hB.size _
                      have ho1 : OwE w4.heap.size (es ++ edRow l st s a) u13 (wr.alloc (.cells #[.string (wdA x a)] 9)) := ho.alloc _
                      have HBD := hidI (fbad_any l p c (wdA x a) wr.heap.size _ (HIN.out.below ((HB.out).trans (hB1.mono HB.out.size))) (by omega) (by omega) r17)
                      have hrl := edRow_len l st s a
                      have HER : Hid (edRow l st s (a + 1) = edRow l st s a ++ (if badA l (wdA x a) = true then [] else [⟨(s : Int), (a : Int), tgA st (wdA x a)⟩])) := by rw [Hid, edRow, HGD.out]
                      have HWD : Hid (wdA x a = x ++ ({ data := #[48, 49, 50, 51, 52, 53, 54, 55, 56, 57, 97, 98, 99, 100, 101, 102] } : ByteArray).extract a (a + 1)) := rfl
                      clear ho hB
                      go_wp2_with fail
                      rw [← HWD.out]
                      generalize wdA x a = wd at *
                      refine HBD.out.mono ?_
                      rintro e w5 ⟨rfl, hD5⟩
                      have k17 := (hD5.cell _).trans (r17.at 0 rfl)
                      have hB5 := hB1.trans (hD5.below _)
                      have ho5 : OwE w4.heap.size (es ++ edRow l st s a) u13 w5 := ho1.below (hD5.below _)
                      clear r17 hB1 ho1 HBD hD5 HWD
                      cases hbd : badA l wd
                      · have HQ : Hid (es ++ edRow l st s (a + 1) = es ++ edRow l st s a ++ [⟨(s : Int), (a : Int), tgA st wd⟩]) := by rw [Hid, HER.out, hbd]; simp
                        have hlk := lookK (HM.out.below hB5 hzW) wd (by unfold maxLen; omega)
                        have HF0 : Hid ((plF st st.length (⟨#[]⟩ : ByteArray)).isSome = true) := plF_some st.length (Nat.le_refl _) (by rw [List.take_length]; exact H0.out)
                        have HT : Hid (tgR (plF st st.length) (wd.size + 1) wd = tgA st wd) := rfl
                        have HMP : Hid (∀ W, RowKit.Below w4.heap.size w4 W → Mp Value.string (fun s => s.size ≤ maxLen) (Value.int .i64) W w3.heap.size (plF st st.length)) := fun W hW => HM.out.below hW hzW
                        clear hbd HER
                        generalize tgA st wd = T at *
                        generalize plF st st.length = f at *
                        have HEL : Hid ((es ++ edRow l st s a).length = es.length + (edRow l st s a).length) := List.length_append
                        generalize es ++ edRow l st s a = E at *
                        go_wp2_with fail
                        clear hlk
                        go_loopw [18, 19, 20] (fun tv okv rv W => ∃ (r : ByteArray) (t : Int) (ok : Bool), rv = .string r ∧ tv = .int .i64 t ∧ okv = .bool ok ∧ Hid (t = (f r).getD 0 ∧ ok = (f r).isSome) ∧ Hid (tgR f (r.size + 1) r = T) ∧ r.size ≤ 48 ∧ W = w5) (fun _ _ rv _ => strSz rv)
                        case atStart => exact ⟨wd, _, _, rfl, rfl, rfl, ⟨rfl, rfl⟩, HT, hwz, rfl⟩
                        case round =>
                          obtain ⟨r, t, ok, rfl, rfl, rfl, hfo, hT, hrz, hW⟩ := hrel
                          subst hW
                          cases ok
                          · have hfn : f r = none := by
                              have h := hfo.out.2
                              cases hf : f r with
                              | none => rfl
                              | some t => rw [hf] at h; cases h
                            have hr1 : 1 ≤ r.size := by
                              rcases Nat.eq_zero_or_pos r.size with h | h
                              · exfalso
                                have he : r = (⟨#[]⟩ : ByteArray) := by
                                  cases r with
                                  | mk d => have hd : d.size = 0 := h
                                            rw [Array.eq_empty_of_size_eq_zero hd]
                                have := HF0.out
                                rw [← he, hfn] at this; cases this
                              · exact h
                            have hrI : (1 : Int) ≤ (r.size : Int) := by omega
                            have hsz' : (r.extract 1 r.size).size = r.size - 1 := by simp
                            have hlk2 := lookK (HMP.out _ hB5) (r.extract 1 r.size) (by unfold maxLen; omega)
                            have HT2 : Hid (tgR f ((r.extract 1 r.size).size + 1) (r.extract 1 r.size) = T) := by
                              rw [Hid, hsz', show r.size - 1 + 1 = r.size by omega, ← hT.out, tgR_none hfn]
                            have HZ' := hidI hsz'
                            clear hfn hsz' hfo hT
                            go_wp2_with fail
                            go_roundw
                            case rel => exact ⟨r.extract 1 r.size, (f (r.extract 1 r.size)).getD 0, (f (r.extract 1 r.size)).isSome, rfl, rfl, rfl, (⟨rfl, rfl⟩ : (f (r.extract 1 r.size)).getD 0 = (f (r.extract 1 r.size)).getD 0 ∧ (f (r.extract 1 r.size)).isSome = (f (r.extract 1 r.size)).isSome), HT2, by rw [HZ'.out]; omega, by first | trivial | rfl⟩
                            case measure =>
                              have := HZ'.out
                              simp only [strSz]; omega
                          · have HTT : Hid (t = T) := by
                              obtain ⟨h1, h2⟩ := hfo.out
                              cases hf : f r with
                              | none => rw [hf] at h2; cases h2
                              | some t' => rw [hf] at h1; rw [Hid, h1, ← hT.out, tgR_some hf]; rfl
                            have HQ2 : Hid (es ++ edRow l st s (a + 1) = E ++ [⟨(s : Int), (a : Int), t⟩]) := by rw [Hid, HQ.out, HTT.out]
                            clear hfo hT HTT HQ HT
                            have hlw := ho5.lt
                            have hownA := ho5.alloc (.cells (edE ⟨(s : Int), (a : Int), t⟩).toArray 42)
                            have hEl2 : E.length ≤ 2048 := by have := HEL.out; omega
                            have hnew := cell_new3 wr ⟨(s : Int), (a : Int), t⟩ 42 wr.heap.size rfl
                            have hszw := hB5.size
                            go_wp2_with (at_builtin; refine wpList_append_own _ rfl _ _ 27 rfl w4.heap.size 42 j0 _ 3 24 Tryz.underlying27 hj0 hy0 hy1 hy2 rfl (by decide) _ _ _ rfl hownA ⟨wr.heap.size, 0, none⟩ 1 1 (cat [⟨(s : Int), (a : Int), t⟩]) rfl rfl hnew (cat_one _) (by simp [maxLen]; omega) (by omega) (by rw [World.size_alloc]; omega) ?_; intro v' w6 hown' hgrow _; rw [← cat_app] at hown')
                            have hBf := (hB5.alloc hszw (.cells (edE ⟨(s : Int), (a : Int), t⟩).toArray 42)).grown hgrow (Nat.le_trans hszw (by simp)) (fun j e => (hlw j e).1)
                            go_roundw
                            case rel => exact ⟨a + 1, by omega, by go_num, by unfold OwE; rw [HQ2.out, List.length_append, List.length_singleton]; exact hown', hBf⟩
                            case measure => simp [intOf]; omega
                      · have HQ : Hid (edRow l st s (a + 1) = edRow l st s a) := by rw [Hid, HER.out, hbd]; simp
                        clear hbd
                        go_wp2_with fail
                        go_roundw
                        case rel => exact ⟨a + 1, by omega, by go_num, by rw [HQ.out]; exact ho5, hB5⟩
                        case measure => simp [intOf]; omega
                    · obtain rfl : a = qn := by omega
                      have hltI3 : ¬ (a : Int) < (a : Int) := by omega
                      go_wp2_with fail
                      go_roundw
                      case rel => exact ⟨s + 1, by omega, by go_num, by rw [HA.out]; exact ho, hB⟩
                      case measure => simp [intOf]; omega
                · obtain rfl : s = st.length := by omega
                  have hltI2 : ¬ (st.length : Int) < (st.length : Int) := by omega
                  go_wp2_with fail
                  go_meet
                  exact ⟨ho, hB⟩
            case rest =>
              obtain ⟨ho, hB⟩ := hcut
              have hEl : (edAll l st qn st.length).length ≤ 64 * 16 := Nat.le_trans (edAll_len l st qn st.length) (Nat.mul_le_mul (by omega) (by omega))
              obtain ⟨pe, ce, rfl, hse, _, _⟩ := own_sg ho
              have hlb4 : w.heap.size < w4.heap.size := HBX.out.lt
              have hbx := HBX.out.below hB hlb4
              have hBw := HB.out.trans (hB.mono HB.out.size)
              have HMK := hidI (gMake_own (qn : Int) (st.length : Int) (edAll l st qn st.length) pe ce wc hse (by omega))
              have HML : Hid ((makeA (qn : Int) (st.length : Int) (edAll l st qn st.length)).1.es.length ≤ 1024) := Nat.le_trans (makeA_len _ _ _) hEl
              generalize edAll l st qn st.length = E at *
              generalize makeA (qn : Int) (st.length : Int) E = mk at *
              clear ho hB hse
              go_wp2_with fail
              refine HMK.out.mono ?_
              rintro e w5 ⟨p5, m5, c5, rfl, ho5, hB5⟩
              obtain ⟨p5', c5', he5, hs5, _, _⟩ := own_sg ho5
              simp only [Value.slice.injEq] at he5
              obtain ⟨rfl, rfl, rfl⟩ := he5
              have hx5 := hbx.below hB5 hbx.lt
              have hw5 := hBw.trans (hB5.mono hBw.size)
              have hx6 := hx5.alloc (.cells #[.int .i64 mk.1.q, .int .i64 mk.1.n, .slice p5 mk.1.es.length c5] 29)
              have hw6 := hw5.alloc hw5.size (.cells #[.int .i64 mk.1.q, .int .i64 mk.1.n, .slice p5 mk.1.es.length c5] 29)
              have r21 : VRow (w5.alloc (.cells #[.int .i64 mk.1.q, .int .i64 mk.1.n, .slice p5 mk.1.es.length c5] 29)) w5.heap.size 29 [.int .i64 mk.1.q, .int .i64 mk.1.n, .slice p5 mk.1.es.length c5] := VRow.new w5 _ _
              have hs6' := hs5.below ((RowKit.Below.refl w5.heap.size w5).alloc (Nat.le_refl _) (.cells #[.int .i64 mk.1.q, .int .i64 mk.1.n, .slice p5 mk.1.es.length c5] 29))
              obtain ⟨G, km⟩ := mk
              simp only at *
              by_cases hk0 : km = 0
              · subst hk0
                rw [if_neg (by simp)] at HG
                have HES := hidI (gEss_any G p5 c5 _ hs6' (by have := HML.out; omega))
                have g0 := r21.at 0 rfl; have g1 := r21.at 1 rfl; have g2 := r21.at 2 rfl
                obtain ⟨y, hgE⟩ : ∃ y, essA G = y := ⟨_, rfl⟩
                obtain ⟨G2, ls, k2⟩ := y
                have HG2 : Hid (graphB (qn : Int) l = (G2, k2)) := by rw [Hid, HG.out]; simp only [hgE]
                rw [hgE] at HES
                clear HG hgE hx5 hw5 hs5 ho5 hB5
                go_wp2_with fail
                clear g0 g1 g2
                refine HES.out.mono ?_
                rintro e w7 ⟨p7, m7, c7, q7, d7, rfl, ho7, _, hB7⟩
                obtain ⟨p7', c7', he7, hs7, _, _⟩ := own_sg ho7
                simp only [Value.slice.injEq] at he7
                obtain ⟨rfl, rfl, rfl⟩ := he7
                have hx7 := hx6.below hB7 hx6.lt
                have hw7 := hw6.trans (hB7.mono hw6.size)
                have hx8 := hx7.alloc (.cells #[.int .i64 G2.q, .int .i64 G2.n, .slice p7 G2.es.length c7] 29)
                have hw8 := hw7.alloc hw7.size (.cells #[.int .i64 G2.q, .int .i64 G2.n, .slice p7 G2.es.length c7] 29)
                have r23 : VRow (w7.alloc (.cells #[.int .i64 G2.q, .int .i64 G2.n, .slice p7 G2.es.length c7] 29)) w7.heap.size 29 [.int .i64 G2.q, .int .i64 G2.n, .slice p7 G2.es.length c7] := VRow.new w7 _ _
                have hs8 := hs7.below ((RowKit.Below.refl w7.heap.size w7).alloc (Nat.le_refl _) (.cells #[.int .i64 G2.q, .int .i64 G2.n, .slice p7 G2.es.length c7] 29))
                have g0 := r23.at 0 rfl; have g1 := r23.at 1 rfl; have g2 := r23.at 2 rfl
                have z0 := hx8.frozen 0; have z1 := hx8.frozen 1; have z2 := hx8.frozen 2
                have f0 := hx8.at 0 rfl; have f1 := hx8.at 1 rfl; have f2 := hx8.at 2 rfl
                have hlt6 := hx6.lt
                have o6 := ownsRow_setCell_below (a := ⟨w.heap.size, 2, none⟩) (ownsRow_setCell_below (a := ⟨w.heap.size, 1, none⟩) (ownsRow_setCell_below (a := ⟨w.heap.size, 0, none⟩) (ho7.alloc (.cells #[.int .i64 G2.q, .int .i64 G2.n, .slice p7 G2.es.length c7] 29)) hlt6 (.int .i64 G2.q)) hlt6 (.int .i64 G2.n)) hlt6 (.slice p7 G2.es.length c7)
                have HO6 := hidI o6
                clear o6 hx7 hx6 r21 hs6' ho7 hs7 hB7
                go_wp2
                have r6 := VRow.set (i := 2) (.slice p7 G2.es.length c7) (VRow.set (i := 1) (.int .i64 G2.n) (VRow.set (i := 0) (.int .i64 G2.q) hx8))
                have y0 := r6.at 0 rfl; have y1 := r6.at 1 rfl; have y2 := r6.at 2 rfl
                refine bodyPost_ret (v := .tuple #[.agg #[.int .i64 G2.q, .int .i64 G2.n, .slice p7 G2.es.length c7], .int .i64 k2]) (by simp [results, Tryz.results7, go_sem, y0, y1, y2]) rfl ?_
                refine RetGf.of HG2.out rfl ?_ (((hw8.setCell (Nat.le_refl _) _).setCell (Nat.le_refl _) _).setCell (Nat.le_refl _) _)
                obtain ⟨p9, c9, hv9, hs9, _, _⟩ := own_sg HO6.out
                simp only [Value.slice.injEq] at hv9
                have hv := hv9.1
                subst hv
                exact hs9
              · rw [if_pos hk0] at HG
                have hkb : (km != 0) = true := by simpa using hk0
                have z0 := hx6.frozen 0; have z1 := hx6.frozen 1; have z2 := hx6.frozen 2
                have f0 := hx6.at 0 rfl; have f1 := hx6.at 1 rfl; have f2 := hx6.at 2 rfl
                clear hk0 hx5
                go_wp2
                have r6 := VRow.set (i := 2) (.slice none 0 0) (VRow.set (i := 1) (.int .i64 0) (VRow.set (i := 0) (.int .i64 0) hx6))
                have y0 := r6.at 0 rfl; have y1 := r6.at 1 rfl; have y2 := r6.at 2 rfl
                refine bodyPost_ret (v := .tuple #[.agg #[.int .i64 0, .int .i64 0, .slice none 0 0], .int .i64 km]) (by simp [results, Tryz.results7, go_sem, y0, y1, y2]) rfl ?_
                exact RetGf.of HG.out rfl (Sg.nil _ _ _ _) (((hw6.setCell (Nat.le_refl _) _).setCell (Nat.le_refl _) _).setCell (Nat.le_refl _) _)
  · have HX : Hid (graphB q l = (⟨0, 0, []⟩, 1)) := by unfold Hid graphB; rw [if_pos (by rw [HR.out]; exact hr0)]
    have hrb : (r != 0) = true := by simpa using hr0
    clear hr0
    go_enter Tryz.func7, Tryz.ntmps7
    go_wp2_with fail
    refine HC.out.mono ?_
    rintro e w1 ⟨rfl, hB1⟩
    have b1 := b0.below hB1 b0.lt
    have x1 := hB0.trans (hB1.mono hB0.size)
    have f0 := b1.at 0 rfl; have f1 := b1.at 1 rfl; have f2 := b1.at 2 rfl
    have z0 := b1.frozen 0; have z1 := b1.frozen 1; have z2 := b1.frozen 2
    go_wp2
    have r6 := VRow.set (i := 2) (.slice none 0 0) (VRow.set (i := 1) (.int .i64 0) (VRow.set (i := 0) (.int .i64 0) b1))
    have y0 := r6.at 0 rfl; have y1 := r6.at 1 rfl; have y2 := r6.at 2 rfl
    refine bodyPost_ret (v := .tuple #[.agg #[.int .i64 0, .int .i64 0, .slice none 0 0], .int .i64 1]) (by simp [results, Tryz.results7, go_sem, y0, y1, y2]) rfl ?_
    exact RetGf.of HX.out rfl (Sg.nil _ _ _ _) (((x1.setCell (Nat.le_refl _) _).setCell (Nat.le_refl _) _).setCell (Nat.le_refl _) _)
end Go.Proofs.YtaclgmhinljkbaaGreatDoor
namespace Go.Proofs.YtaclgmhinljkbaaGreatDoor
open Go.RowKit Go.Sort Go.Shelf Go.Lib

def eqW (a b : List ByteArray) : Bool := decide (a = b)
theorem equalW_any (a b : List ByteArray) (pa pb : Option Addr) (ca cb : Nat) (w : World) (ha : Sl w Value.string pa a) (hb : Sl w Value.string pb b) (la : a.length ≤ 9223372036854775807) (lb : b.length ≤ 9223372036854775807) :
    Calls Tryz.prog 15 #[.slice pa a.length ca, .slice pb b.length cb] w fun e w' => e = .returned (.bool (eqW a b)) ∧ Dr w w' := by
  by_cases hl : a.length = b.length
  · rcases Nat.eq_zero_or_pos a.length with h0 | h0
    · have e1 : a = [] := List.length_eq_zero_iff.1 h0
      have e2 : b = [] := List.length_eq_zero_iff.1 (by omega)
      subst e1; subst e2
      refine (Tryz.slices_Equal_string_empty pa pb ca 0 cb w (by omega)).mono ?_
      rintro e w' ⟨rfl, rfl⟩
      exact ⟨rfl, Dr.refl _⟩
    · obtain ⟨b1, o1, rfl, _, hc1⟩ := ha.get 0 h0
      obtain ⟨b2, o2, rfl, _, hc2⟩ := hb.get 0 (by omega)
      refine (Tryz.slices_Equal_string b1 o1 a.length ca b2 o2 b.length cb a b w (Nat.le_refl _) (Nat.le_refl _) la lb (fun j hj => by rw [hc1 j hj]; simp [List.getD, List.getElem?_eq_getElem hj]) (fun j hj => by rw [hc2 j hj]; simp [List.getD, List.getElem?_eq_getElem hj])).mono ?_
      rintro e w' ⟨rfl, q, rfl⟩
      refine ⟨?_, ⟨q, rfl⟩⟩
      rw [List.take_length, List.take_length]; unfold eqW; congr
  · refine (Tryz.slices_Equal_string_lens pa pb a.length ca b.length cb w hl).mono ?_
    rintro e w' ⟨rfl, rfl⟩
    have : eqW a b = false := decide_eq_false (fun e => hl (by rw [e]))
    rw [this]
    exact ⟨rfl, Dr.refl _⟩

def b101 : ByteArray := ⟨#[49, 48, 49]⟩
def awG : Gr := ⟨2, 2, [⟨0, 0, 0⟩, ⟨0, 1, 1⟩, ⟨1, 0, 0⟩]⟩
def awH : Gr := ⟨2, 0, []⟩
theorem aw_11 : graphB 2 [b11] = (awG, 0) := graph_11
theorem aw_01 : graphB 2 [b0, b1] = (awH, 0) := graph_01
theorem aw_red : redA 2 [b101, b1] = ([b1], 0) := by kernel_rfl
theorem vrow_sl {w : World} {b : Nat} (l : List ByteArray) (h : VRow w b 9 (l.map Value.string)) : Sl w Value.string (some ⟨b, 0, none⟩) l := Sl.of_vrow h

set_option maxRecDepth 100000 in
set_option maxHeartbeats 2000000 in
theorem awake14_any (w : World) (hm : Mx w) : Calls Tryz.prog 6 #[] w fun e w' => e = .returned (.bool true) ∧ RowKit.Below w.heap.size w w' := by
  have HMX := hidI hm
  clear hm
  have HG1 : Hid (∀ W, RowKit.Below w.heap.size w W → Calls Tryz.prog 7 #[.int .i64 2, .slice (some ⟨W.heap.size, 0, none⟩) 1 1] (W.alloc (.cells #[.string b11] 9)) (RetGf (awG, 0) (W.alloc (.cells #[.string b11] 9)))) := fun W hW => by
    have h := fGraph_any 2 [b11] (some ⟨W.heap.size, 0, none⟩) 1 (W.alloc (.cells #[.string b11] 9)) (vrow_sl [b11] (VRow.new W _ _)) (by decide) (fun u hu => by rw [List.mem_singleton.1 hu]; decide) (HMX.out.below (hW.alloc hW.size _))
    rw [aw_11] at h; exact h
  have HG2 : Hid (∀ W n, W.heap.size = n → RowKit.Below w.heap.size w W → Calls Tryz.prog 7 #[.int .i64 2, .slice (some ⟨n, 0, none⟩) 2 2] (W.alloc (.cells #[.string b0, .string b1] 9)) (RetGf (awH, 0) (W.alloc (.cells #[.string b0, .string b1] 9)))) := fun W n hn hW => by
    subst hn
    have h := fGraph_any 2 [b0, b1] (some ⟨W.heap.size, 0, none⟩) 2 (W.alloc (.cells #[.string b0, .string b1] 9)) (vrow_sl [b0, b1] (VRow.new W _ _)) (by decide) (fun u hu => by rcases List.mem_cons.1 hu with h | h; (rw [h]; decide); (rw [List.mem_singleton.1 h]; decide)) (HMX.out.below (hW.alloc hW.size _))
    rw [aw_01] at h; exact h
  have HRD : Hid (∀ W n, W.heap.size = n → RowKit.Below w.heap.size w W → Calls Tryz.prog 13 #[.int .i64 2, .slice (some ⟨n, 0, none⟩) 2 2] (W.alloc (.cells #[.string b101, .string b1] 9)) (RetSe ([b1], 0) (W.alloc (.cells #[.string b101, .string b1] 9)))) := fun W n hn hW => by
    subst hn
    have h := fReduce_any 2 [b101, b1] (some ⟨W.heap.size, 0, none⟩) 2 (W.alloc (.cells #[.string b101, .string b1] 9)) (vrow_sl [b101, b1] (VRow.new W _ _)) (by decide) (fun u hu => by rcases List.mem_cons.1 hu with h | h; (rw [h]; decide); (rw [List.mem_singleton.1 h]; decide))
    rw [aw_red] at h; exact h
  have HQ : Hid (∀ W p p' c c', Sg 3 W edE p awG.es → Sg 3 W edE p' awG.es → Calls Tryz.prog 14 #[.agg #[.int .i64 2, .int .i64 2, .slice p 3 c], .agg #[.int .i64 2, .int .i64 2, .slice p' 3 c']] W fun e w' => e = .returned (.bool true) ∧ RowKit.Below W.heap.size W w') := fun W p p' c c' h1 h2 => by
    have h := rSame_any awG awG p p' c c' W h1 h2 (by decide) (by decide)
    rw [sameG_refl] at h; exact h
  have hr0 := RowKit.Below.refl w.heap.size w
  have hw1 : RowKit.Below w.heap.size w (w.alloc (.cells #[.string b11] 9)) := hr0.alloc (Nat.le_refl _) _
  go_enter Tryz.func6, Tryz.ntmps6
  go_wp2_with fail
  refine (HG1.out w hr0).mono ?_
  rintro e w2 ⟨p2, m2, c2, rfl, hm2, hs2, hB2⟩
  replace hm2 : m2 = 3 := hm2
  subst hm2
  have x2 := hw1.trans (hB2.mono hw1.size)
  simp only [awG, awH] at *
  obtain ⟨E, hE⟩ : ∃ E : List Ed, E = [⟨0, 0, 0⟩, ⟨0, 1, 1⟩, ⟨1, 0, 0⟩] := ⟨_, rfl⟩
  have hs2 := hidI hs2
  have g2 : VRow (w2.alloc (.cells #[.int .i64 2, .int .i64 2, .slice p2 3 c2] 29)) w2.heap.size 29 [.int .i64 2, .int .i64 2, .slice p2 3 c2] := VRow.new w2 _ _
  have x3 := x2.alloc x2.size (.cells #[.int .i64 2, .int .i64 2, .slice p2 3 c2] 29)
  have hs3 := hidI (hs2.out.below ((RowKit.Below.refl w2.heap.size w2).alloc (Nat.le_refl _) (.cells #[.int .i64 2, .int .i64 2, .slice p2 3 c2] 29)))
  have HR2 := hidI (HRD.out (w2.alloc (.cells #[.int .i64 2, .int .i64 2, .slice p2 3 c2] 29)) (w2.heap.size + 1) (by simp) x3)
  have hz3 : (w2.alloc (.cells #[.int .i64 2, .int .i64 2, .slice p2 3 c2] 29)).heap.size = w2.heap.size + 1 := World.size_alloc _ _
  have HZ3 := hidI hz3
  have g3 := g2.alloc (.cells #[.string b101, .string b1] 9)
  have x4 := x3.alloc x3.size (.cells #[.string b101, .string b1] 9)
  have hs4 := hidI (hs3.out.below ((RowKit.Below.refl _ _).alloc (Nat.le_refl _) (.cells #[.string b101, .string b1] 9)))
  clear hE hz3 g2 x3 hs2 hs3 HG1 HRD x2 hB2 hw1 hr0
  go_wp2_with fail
  refine HR2.out.mono ?_
  rintro e w5 ⟨q5, n5, c5, rfl, hn5, -, -, hl5, hB5⟩
  replace hn5 : n5 = 1 := hn5
  subst hn5
  have x5 := x4.trans (hB5.mono x4.size)
  have g5 := g3.below hB5 g3.lt
  have hs5 := hidI (hs4.out.below hB5)
  have g6 := g5.alloc (.cells #[.string b0, .string b1] 9)
  have x6 := x5.alloc x5.size (.cells #[.string b0, .string b1] 9)
  have hs6 := hidI (hs5.out.below ((RowKit.Below.refl _ _).alloc (Nat.le_refl _) (.cells #[.string b0, .string b1] 9)))
  have hl6 := hidI (Sl.below (l := [b1]) hl5 ((RowKit.Below.refl _ _).alloc (Nat.le_refl _) (.cells #[.string b0, .string b1] 9)))
  have HR6 := hidI (HG2.out w5 w5.heap.size rfl x5)
  clear hs4 hs5 hl5 HR2 HG2 x5 x4 g5 g3 hB5
  have g6 := hidI g6
  have x6 := hidI x6
  go_wp2_with fail
  refine HR6.out.mono ?_
  rintro e w7 ⟨p7, m7, c7, rfl, hm7, -, hB7⟩
  replace hm7 : m7 = 0 := hm7
  subst hm7
  have x7 := x6.out.trans (hB7.mono x6.out.size)
  have g7 := g6.out.below hB7 g6.out.lt
  have hs7 := hs6.out.below hB7
  have hl7 := hl6.out.below hB7
  obtain ⟨w8, hw8⟩ : ∃ w8, w8 = w7.alloc (.cells #[.int .i64 2, .int .i64 0, .slice p7 0 c7] 29) := ⟨_, rfl⟩
  have hB8 : RowKit.Below w7.heap.size w7 w8 := by subst hw8; exact (RowKit.Below.refl _ _).alloc (Nat.le_refl _) _
  have g8 : VRow w8 w7.heap.size 29 [.int .i64 2, .int .i64 0, .slice p7 0 c7] := by subst hw8; exact VRow.new w7 _ _
  have k8 := g7.below hB8 g7.lt
  have x8 := x7.trans (hB8.mono x7.size)
  have hs8 := hs7.below hB8
  have hl8 := hl7.below hB8
  have hz8 : w8.heap.size = w7.heap.size + 1 := by subst hw8; exact World.size_alloc _ _
  obtain ⟨w9, hw9⟩ : ∃ w9, w9 = (w8.alloc (.cells #[.int .i64 0, .int .i64 0, .int .i64 0, .int .i64 0, .int .i64 1, .int .i64 1, .int .i64 1, .int .i64 0, .int .i64 0] 42)).alloc (.cells #[.int .i64 2, .int .i64 2, .slice (some ⟨w7.heap.size + 1, 0, none⟩) 3 3] 29) := ⟨_, rfl⟩
  have hB9 : RowKit.Below w8.heap.size w8 w9 := by subst hw9; exact ((RowKit.Below.refl _ _).alloc (Nat.le_refl _) _).alloc (by simp) _
  have e9 : VRow w9 w8.heap.size 42 (cat [⟨0, 0, 0⟩, ⟨0, 1, 1⟩, ⟨1, 0, 0⟩]) := by subst hw9; exact (VRow.new w8 _ _).alloc _
  have f9 : VRow w9 (w8.heap.size + 1) 29 [.int .i64 2, .int .i64 2, .slice (some ⟨w7.heap.size + 1, 0, none⟩) 3 3] := by subst hw9; exact VRow.new1 w8 _ _ _
  rw [hz8] at e9 f9
  have x9 := x8.trans (hB9.mono x8.size)
  have g9 := g8.below hB9 g8.lt
  have k9 := k8.below hB9 k8.lt
  have hs9 := hs8.below hB9
  have hl9 := hl8.below hB9
  have s9 := Sg.of_row e9
  have a0 := k9.at 0 rfl; have a1 := k9.at 1 rfl; have a2 := k9.at 2 rfl
  have d0 := f9.at 0 rfl; have d1 := f9.at 1 rfl; have d2 := f9.at 2 rfl
  have HQ9 := hidI (HQ.out w9 p2 (some ⟨w7.heap.size + 1, 0, none⟩) c2 3 hs9 s9)
  have HL9 := hidI hl9
  have HW9 : Hid ((w7.alloc (.cells #[.int .i64 2, .int .i64 0, .slice p7 0 c7] 29)) = w8) := hw8.symm
  have HV9 := hidI hw9.symm
  clear HQ g6 x6 hs6 hl6 HR6 g7 hs7 hl7 g8 k8 x7 x8 hs8 hl8 hB8 hB7 hw8 hw9 hB9 e9 s9 hs9 hl9 HZ3
  go_upto_region 5 with fail
  rw [HW9.out, HV9.out]
  clear HW9 HV9
  go_wp2_with fail
  refine HQ9.out.mono ?_
  rintro e w10 ⟨rfl, hB10⟩
  have x10 := x9.trans (hB10.mono x9.size)
  have g10 := g9.below hB10 g9.lt
  have hl10 := HL9.out.below hB10
  have x11 := x10.alloc x10.size (.cells #[.string b1] 9)
  have g11 := g10.alloc (.cells #[.string b1] 9)
  have HE := hidI (equalW_any [b1] [b1] q5 (some ⟨w10.heap.size, 0, none⟩) c5 1 (w10.alloc (.cells #[.string b1] 9)) (hl10.below ((RowKit.Below.refl _ _).alloc (Nat.le_refl _) _)) (vrow_sl [b1] (VRow.new w10 _ _)) (by decide) (by decide))
  rw [show eqW [b1] [b1] = true from decide_eq_true rfl] at HE
  clear HQ9 HL9 hB10 a0 a1 a2 d0 d1 d2 k9 f9 g9 hl10 x9
  go_wp2_with fail
  refine HE.out.mono ?_
  rintro e w12 ⟨rfl, hD12⟩
  have n1 := (hD12.cell _).trans (g11.at 1 rfl)
  have x12 := x11.trans (hD12.below _)
  clear HE g11 g10 x10 x11
  go_wp2
  go_ret
  exact ⟨rfl, x12⟩
end Go.Proofs.YtaclgmhinljkbaaGreatDoor
namespace Go.Proofs.YtaclgmhinljkbaaGreatDoor
open Go.RowKit Go.Sort Go.Shelf Go.Lib

theorem gr14_f {l : List ByteArray} (h : gr14 l = false) : l.length ≤ 67 ∧ Sz l := by
  unfold gr14 at h
  simp only [Bool.or_eq_false_iff] at h
  obtain ⟨⟨h1, _⟩, h3⟩ := h
  refine ⟨by have := of_decide_eq_false h3; omega, fun u hu => ?_⟩
  have h4 : gr1 u = false := by
    cases hg : gr1 u
    · rfl
    · rw [List.any_eq_true.2 ⟨u, hu, hg⟩] at h1; cases h1
  unfold gr1 at h4
  simp only [Bool.or_eq_false_iff] at h4
  have := of_decide_eq_false h4.2
  omega

end Go.Proofs.YtaclgmhinljkbaaGreatDoor
namespace Go.Proofs.YtaclgmhinljkbaaGreatDoor
open Go.RowKit Go.Sort

theorem ext_ext (s : ByteArray) (i k a b : Nat) (hi : i ≤ k) (hb : b ≤ k - i) : (s.extract i k).extract a b = s.extract (i + a) (i + b) := by
  have h := ByteArray.extract_extract (a := s) (i := i) (j := k) (k := a) (l := b)
  rw [h, Nat.min_eq_left]
  omega
theorem fac_trans {s u v : ByteArray} (h1 : u ∈ facL s) (h2 : v ∈ facL u) : v ∈ facL s := by
  obtain ⟨i, k, a, b, rfl⟩ := mem_facL.1 h1
  obtain ⟨j, m, c, d, rfl⟩ := mem_facL.1 h2
  have hsz : (s.extract i k).size = k - i := by simp; omega
  rw [hsz] at d
  rw [ext_ext s i k j m (by omega) d]
  exact mem_facL.2 ⟨i + j, i + m, by omega, by omega, rfl⟩
theorem fac_self {s : ByteArray} (h : s ≠ (⟨#[]⟩ : ByteArray)) : s ∈ facL s := by
  have hp : 0 < s.size := by
    rcases Nat.eq_zero_or_pos s.size with h0 | h0
    · exfalso; apply h; cases s with
      | mk d => have hd : d.size = 0 := h0
                rw [Array.eq_empty_of_size_eq_zero hd]
    · exact h0
  exact mem_facL.2 ⟨0, s.size, hp, Nat.le_refl _, by simp⟩
theorem fac_lt {s u : ByteArray} (h : u ∈ facL s) (hne : u ≠ s) : u.size < s.size := by
  obtain ⟨i, k, a, b, rfl⟩ := mem_facL.1 h
  have hsz : (s.extract i k).size = k - i := by simp; omega
  rw [hsz]
  by_cases e : i = 0 ∧ k = s.size
  · exfalso; apply hne; rw [e.1, e.2]; simp
  · omega

/-- What the law knows of the list. -/
structure Okl (q : Int) (l : List ByteArray) : Prop where
  q1 : ¬ (q < 1 ∨ 16 < q)
  len : l.length ≤ 64
  one : ∀ u ∈ l, oneA q u = 0
theorem Okl.of {q : Int} {l : List ByteArray} (h : errA q l = 0) : Okl q l := ⟨(errA_ok h).1, (errA_ok h).2.1, (errA_ok h).2.2⟩
section
variable {q : Int} {l : List ByteArray}
def mOf (l : List ByteArray) : List ByteArray := redL l l.length
theorem mem_m {z : ByteArray} : z ∈ mOf l ↔ z ∈ l ∧ minB l z = true := by unfold mOf; rw [mem_redL (Nat.le_refl _), List.take_length]
theorem srt_m (l : List ByteArray) : SrtB (mOf l) := redL_srt l _
theorem Okl.ne (h : Okl q l) : ∀ u ∈ l, u ≠ (⟨#[]⟩ : ByteArray) := fun u hu => oneA_ne (h.one u hu)
theorem fst1_zero : ∀ {l : List ByteArray}, (∀ u ∈ l, oneA q u = 0) → fst1 q l = 0
  | [], _ => rfl
  | s :: l, h => by
    unfold fst1
    rw [if_neg (by simpa using h s (by simp))]
    exact fst1_zero (fun u hu => h u (by simp [hu]))
theorem m_err (h : Okl q l) : errA q (mOf l) = 0 := by
  unfold errA
  rw [if_neg h.q1, if_neg (by have := redL_len l l.length; have := h.len; unfold mOf; omega)]
  exact fst1_zero (fun u hu => h.one u (mem_m.1 hu).1)
theorem m_min {z : ByteArray} (hz : z ∈ mOf l) : minB (mOf l) z = true := by
  have := (mem_m.1 hz).2
  unfold minB at *
  rw [List.all_eq_true] at *
  exact fun u hu => this u (mem_m.1 hu).1
theorem m_again : mOf (mOf l) = mOf l :=
  SrtB.unique (srt_m _) (srt_m _) (fun z => by
    rw [mem_m]
    exact ⟨fun h => h.1, fun h => ⟨h, m_min h⟩⟩)
theorem m_red (h : Okl q l) : redA q (mOf l) = (mOf l, 0) := by
  unfold redA
  rw [m_err h, if_neg (by simp)]
  exact congrArg (·, 0) m_again
theorem chk2_srt : ∀ {l : List ByteArray} {pv : Option ByteArray}, (∀ u ∈ l, oneA q u = 0) → SrtB l → (∀ a, pv = some a → ∀ u ∈ l, ordB a u < 0) → chk2 q pv l = 0
  | [], _, _, _, _ => rfl
  | s :: l, pv, h1, h2, h3 => by
    have h2' := List.pairwise_cons.1 h2
    have ih := chk2_srt (l := l) (pv := some s) (fun u hu => h1 u (by simp [hu])) h2'.2 (fun a ha u hu => by cases ha; exact h2'.1 u hu)
    unfold chk2
    rw [if_neg (by simpa using h1 s (by simp))]
    cases pv with
    | none => simpa using ih
    | some a =>
      have h0 : ¬ 0 ≤ ordB a s := by have := h3 a rfl s (by simp); omega
      simpa [h0] using ih
theorem m_chk (h : Okl q l) : chkF q (mOf l) = 0 := by
  unfold chkF
  rw [if_neg h.q1, if_neg (by have := redL_len l l.length; have := h.len; unfold mOf; omega)]
  exact chk2_srt (fun u hu => h.one u (mem_m.1 hu).1) (srt_m l) (fun a ha => by cases ha)
theorem m_apart {i k : Nat} (hi : i < (mOf l).length) (hk : k < (mOf l).length) (hne : i ≠ k) : Lib.contains (mOf l)[i].data.toList (mOf l)[k].data.toList = false := by
  have h1 := mem_m.1 (List.getElem_mem hi); have h2 := mem_m.1 (List.getElem_mem hk)
  have hne' : (mOf l)[k] ≠ (mOf l)[i] := fun e => by
    have hs := List.pairwise_iff_getElem.1 (srt_m l)
    rcases Nat.lt_or_gt_of_ne hne with hlt | hlt
    · have := hs i k hi hk hlt; rw [e, ordB_refl] at this; omega
    · have := hs k i hk hi hlt; rw [e, ordB_refl] at this; omega
  have hm := h1.2
  unfold minB at hm
  have := List.all_eq_true.1 hm _ h2.1
  rw [okB_ne hne'] at this
  simpa using this
theorem m_covers (hl : ∀ u ∈ l, u ≠ (⟨#[]⟩ : ByteArray)) : ∀ (n : Nat) (x : ByteArray), x.size ≤ n → x ∈ l → ∃ y ∈ mOf l, y ∈ facL x
  | n, x, hn, hx => by
    by_cases hm : minB l x = true
    · exact ⟨x, mem_m.2 ⟨hx, hm⟩, fac_self (hl x hx)⟩
    · have : ∃ u ∈ l, okB x u = false := by
        unfold minB at hm
        rw [Bool.not_eq_true, List.all_eq_false] at hm
        obtain ⟨u, hu, h⟩ := hm
        exact ⟨u, hu, by simpa using h⟩
      obtain ⟨u, hu, ho⟩ := this
      have hne : u ≠ x := fun e => by rw [okB_eq e] at ho; cases ho
      rw [okB_ne hne] at ho
      have hc : Lib.contains x.data.toList u.data.toList = true := by simpa using ho
      have hf := (contains_iff (hl u hu)).1 hc
      have hlt := fac_lt hf hne
      match n, hn with
      | 0, hn => omega
      | n + 1, hn =>
        obtain ⟨y, hy, hyu⟩ := m_covers hl n u (by omega) hu
        exact ⟨y, hy, fac_trans hf hyu⟩
theorem m_cover (h : Okl q l) {x : ByteArray} (hx : x ∈ l) : (mOf l).any (fun y => Lib.contains x.data.toList y.data.toList) = true := by
  obtain ⟨y, hy, hf⟩ := m_covers h.ne x.size x (Nat.le_refl _) hx
  exact List.any_eq_true.2 ⟨y, hy, (contains_iff (h.ne y (mem_m.1 hy).1)).2 hf⟩
theorem m_alw (h : Okl q l) (w : ByteArray) : alwA (mOf l) w = alwA l w := by
  unfold alwA
  congr 1
  rw [Bool.eq_iff_iff, List.any_eq_true, List.any_eq_true]
  constructor
  · rintro ⟨y, hy, hc⟩; exact ⟨y, (mem_m.1 hy).1, hc⟩
  · rintro ⟨x, hx, hc⟩
    obtain ⟨y, hy, hf⟩ := m_covers h.ne x.size x (Nat.le_refl _) hx
    exact ⟨y, hy, (contains_iff (h.ne y (mem_m.1 hy).1)).2 (fac_trans ((contains_iff (h.ne x hx)).1 hc) hf)⟩
theorem m_alwR (h : Okl q l) {w : ByteArray} (hw : wchk q w.data.toList = 0) : alwR q (mOf l) w = (alwA l w, 0) := by
  unfold alwR
  rw [m_chk h, if_neg (by simp), if_neg (by simp [hw]), m_alw h]
end
end Go.Proofs.YtaclgmhinljkbaaGreatDoor
namespace Go.Proofs.YtaclgmhinljkbaaGreatDoor
open Go.RowKit Go.Sort

/-! ### The states -/
def preR (l : List ByteArray) (w : ByteArray) (n : Nat) : List ByteArray := ((List.range n).map (fun k => w.extract 0 (k + 1))).filter (alwA l)
theorem preR_succ (l : List ByteArray) (w : ByteArray) (n : Nat) : preR l w (n + 1) = preR l w n ++ (if alwA l (w.extract 0 (n + 1)) = true then [w.extract 0 (n + 1)] else []) := by
  unfold preR
  rw [List.range_succ, List.map_append, List.filter_append]
  congr 1
  by_cases h : alwA l (w.extract 0 (n + 1)) = true <;> simp [h]
def candR (l : List ByteArray) (k : Nat) : List ByteArray := (⟨#[]⟩ : ByteArray) :: (l.take k).flatMap (fun w => preR l w (w.size - 1))
theorem candR_succ (l : List ByteArray) (k : Nat) (h : k < l.length) : candR l (k + 1) = candR l k ++ preR l l[k] (l[k].size - 1) := by
  unfold candR
  rw [List.take_succ_eq_append_getElem h, List.flatMap_append]; simp
theorem ext_00 (w : ByteArray) : w.extract 0 0 = (⟨#[]⟩ : ByteArray) := by
  have h : (w.extract 0 0).size = 0 := by simp
  generalize w.extract 0 0 = x at *
  cases x with
  | mk d => have hd : d.size = 0 := h
            rw [Array.eq_empty_of_size_eq_zero hd]
theorem mem_cand {l : List ByteArray} {k : Nat} {z : ByteArray} : z ∈ candR l k ↔ z ∈ candF l k := by
  unfold candR candF preR preF
  simp only [List.mem_cons, List.mem_flatMap, List.mem_filter, List.mem_map, List.mem_range]
  constructor
  · rintro (h | ⟨w, hw, ⟨j, hj, rfl⟩, ha⟩)
    · exact .inl h
    · exact .inr ⟨w, hw, ⟨j + 1, by omega, rfl⟩, ha⟩
  · rintro (h | ⟨w, hw, ⟨j, hj, rfl⟩, ha⟩)
    · exact .inl h
    · cases j with
      | zero => exact .inl (ext_00 w)
      | succ j => exact .inr ⟨w, hw, ⟨j, by omega, rfl⟩, ha⟩
theorem st_ref (l : List ByteArray) : insAll (candR l l.length) = stA l :=
  SrtB.unique (insAll_srt _) (insAll_srt _) (fun z => by rw [mem_insAll, show z ∈ stA l ↔ z ∈ candF l l.length from mem_insAll, mem_cand])

/-! ### The targets -/
theorem plF_get {st : List ByteArray} {u : ByteArray} {t : Int} : ∀ k, k ≤ st.length → plF st k u = some t → ∃ (i : Nat) (h : i < st.length), t = i ∧ st[i] = u
  | 0, _, h => by simp [plF] at h
  | k + 1, hk, h => by
    rw [plF] at h
    split at h
    · rename_i e
      cases h
      exact ⟨k, by omega, rfl, by rw [e]; simp [List.getD, List.getElem?_eq_getElem (by omega : k < st.length)]⟩
    · exact plF_get k (by omega) h
theorem tgR_first {f : ByteArray → Option Int} (h0 : (f (⟨#[]⟩ : ByteArray)).isSome = true) : ∀ (n : Nat) (r : ByteArray), r.size ≤ n → ∃ i, i ≤ r.size ∧ f (r.extract i r.size) = some (tgR f (n + 1) r) ∧ ∀ j, j < i → f (r.extract j r.size) = none
  | n, r, hn => by
    cases hf : f r with
    | some t => exact ⟨0, by omega, by rw [tgR_some hf]; simpa using hf, fun j hj => by omega⟩
    | none =>
      have hpos : 0 < r.size := by
        rcases Nat.eq_zero_or_pos r.size with h | h
        · exfalso
          have : r = (⟨#[]⟩ : ByteArray) := by
            cases r with
            | mk d => have hd : d.size = 0 := h
                      rw [Array.eq_empty_of_size_eq_zero hd]
          rw [← this, hf] at h0; cases h0
        · exact h
      match n, hn with
      | 0, hn => omega
      | n + 1, hn =>
        have hsz : (r.extract 1 r.size).size = r.size - 1 := by simp
        obtain ⟨i, hi, h1, h2⟩ := tgR_first h0 n (r.extract 1 r.size) (by omega)
        rw [hsz, ext_ext r 1 r.size i (r.size - 1) (by omega) (by omega), show 1 + (r.size - 1) = r.size by omega] at h1
        refine ⟨1 + i, by omega, by rw [tgR_none hf]; exact h1, fun j hj => ?_⟩
        cases j with
        | zero => simpa using hf
        | succ j =>
          have := h2 j (by omega)
          rw [hsz, ext_ext r 1 r.size j (r.size - 1) (by omega) (by omega), show 1 + (r.size - 1) = r.size by omega] at this
          rw [show j + 1 = 1 + j by omega]; exact this
/-- The reference's search. -/
def rT (st : List ByteArray) (w : ByteArray) : Nat → Nat
  | 0 => 0
  | t + 1 => if (st.getD t (⟨#[]⟩ : ByteArray)).size ≤ w.size ∧ w.extract (w.size - (st.getD t (⟨#[]⟩ : ByteArray)).size) w.size = st.getD t (⟨#[]⟩ : ByteArray) ∧ (st.getD (rT st w t) (⟨#[]⟩ : ByteArray)).size ≤ (st.getD t (⟨#[]⟩ : ByteArray)).size then t else rT st w t
def sufT (w u : ByteArray) : Prop := u.size ≤ w.size ∧ w.extract (w.size - u.size) w.size = u
theorem getD_at {st : List ByteArray} {t : Nat} (h : t < st.length) : st.getD t (⟨#[]⟩ : ByteArray) = st[t] := by simp [List.getD, List.getElem?_eq_getElem h]
theorem srt_size {st : List ByteArray} (hs : SrtB st) {i k : Nat} (hi : i < st.length) (hk : k < st.length) (h : i ≤ k) : st[i].size ≤ st[k].size := by
  rcases Nat.lt_or_eq_of_le h with h | h
  · have := ordB_neg.1 (List.pairwise_iff_getElem.1 hs i k hi hk h)
    omega
  · subst h; exact Nat.le_refl _
theorem rT_last {st : List ByteArray} (hs : SrtB st) (h0 : st.getD 0 (⟨#[]⟩ : ByteArray) = (⟨#[]⟩ : ByteArray)) (w : ByteArray) : ∀ k, k < st.length → rT st w (k + 1) < k + 1 ∧ sufT w (st.getD (rT st w (k + 1)) (⟨#[]⟩ : ByteArray)) ∧ ∀ j, rT st w (k + 1) < j → j < k + 1 → ¬ sufT w (st.getD j (⟨#[]⟩ : ByteArray))
  | 0, hk => by
    have hz : ((⟨#[]⟩ : ByteArray)).size = 0 := rfl
    have hsf : sufT w (st.getD 0 (⟨#[]⟩ : ByteArray)) := by
      rw [h0]
      refine ⟨by rw [hz]; omega, ?_⟩
      have h : (w.extract (w.size - ((⟨#[]⟩ : ByteArray)).size) w.size).size = 0 := by simp [hz]
      generalize w.extract (w.size - ((⟨#[]⟩ : ByteArray)).size) w.size = x at *
      cases x with
      | mk d => have hd : d.size = 0 := h
                rw [Array.eq_empty_of_size_eq_zero hd]
    have hr : rT st w 1 = 0 := by unfold rT; split <;> simp [rT]
    rw [hr]
    exact ⟨by omega, hsf, fun j h1 h2 => by omega⟩
  | k + 1, hk => by
    obtain ⟨h1, h2, h3⟩ := rT_last hs h0 w k (by omega)
    by_cases hsf : sufT w (st.getD (k + 1) (⟨#[]⟩ : ByteArray))
    · have hr : rT st w (k + 1 + 1) = k + 1 := by
        rw [rT, if_pos]
        refine ⟨hsf.1, hsf.2, ?_⟩
        rw [getD_at (by omega : rT st w (k + 1) < st.length), getD_at hk]
        exact srt_size hs _ _ (by omega)
      rw [hr]
      exact ⟨by omega, hsf, fun j h1 h2 => by omega⟩
    · have hr : rT st w (k + 1 + 1) = rT st w (k + 1) := by
        rw [rT, if_neg]
        rintro ⟨a, b, _⟩; exact hsf ⟨a, b⟩
      rw [hr]
      refine ⟨by omega, h2, fun j h4 h5 => ?_⟩
      by_cases e : j = k + 1
      · subst e; exact hsf
      · exact h3 j h4 (by omega)
theorem rT_tg {st : List ByteArray} (hs : SrtB st) (hne : 0 < st.length) (h0 : st.getD 0 (⟨#[]⟩ : ByteArray) = (⟨#[]⟩ : ByteArray)) (w : ByteArray) : ((rT st w st.length : Nat) : Int) = tgA st w := by
  obtain ⟨n, hn⟩ : ∃ n, st.length = n + 1 := ⟨st.length - 1, by omega⟩
  obtain ⟨h1, h2, h3⟩ := rT_last hs h0 w n (by omega)
  rw [← hn] at h1 h2 h3
  generalize rT st w st.length = t at *
  have hm0 : (⟨#[]⟩ : ByteArray) ∈ st := by
    have := List.getElem_mem (l := st) hne
    rw [← getD_at hne, h0] at this; exact this
  obtain ⟨i, hi, h4, h5⟩ := tgR_first (f := plF st st.length) (plF_some st.length (Nat.le_refl _) (by rw [List.take_length]; exact hm0)) w.size w (Nat.le_refl _)
  obtain ⟨k, hk, h6, h7⟩ := plF_get st.length (Nat.le_refl _) h4
  have ht : tgA st w = (k : Int) := h6
  rw [ht]
  have hks : sufT w (st.getD k (⟨#[]⟩ : ByteArray)) := by
    rw [getD_at hk, h7]
    have hz : (w.extract i w.size).size = w.size - i := by simp
    exact ⟨by rw [hz]; omega, by rw [hz]; congr 1; omega⟩
  have hkt : k ≤ t := by
    rcases Nat.lt_or_ge t k with h | h
    · exact absurd hks (h3 k h hk)
    · exact h
  rw [getD_at h1] at h2
  have hsz : (w.extract i w.size).size = w.size - i := by simp
  have hge : w.size - st[t].size ≥ i := by
    rcases Nat.lt_or_ge (w.size - st[t].size) i with h | h
    · have := h5 _ h
      rw [h2.2] at this
      have hs' := plF_some (u := st[t]) st.length (Nat.le_refl _) (by rw [List.take_length]; exact List.getElem_mem h1)
      rw [this] at hs'; cases hs'
    · exact h
  have hsz2 := srt_size hs hk h1 hkt
  rw [h7, hsz] at hsz2
  have he : st[t].size = w.size - i := by have := h2.1; omega
  have heq : st[t] = st[k] := by
    rw [h7, ← h2.2, he]; congr 1; omega
  rcases Nat.lt_or_eq_of_le hkt with h | h
  · have := List.pairwise_iff_getElem.1 hs k t hk h1 h
    rw [heq, ordB_refl] at this; omega
  · rw [h]
/-! ### Which letters may follow -/
theorem ext_left (p x : ByteArray) (i k : Nat) (hk : k ≤ p.size) : (p ++ x).extract i k = p.extract i k := by
  have hs : k ≤ p.data.size := hk
  apply ByteArray.ext
  rw [ByteArray.data_extract, ByteArray.data_extract, ByteArray.data_append]
  rw [Array.extract_append]
  simp
  omega
theorem wd_size (p : ByteArray) (a : Nat) (h : a < 16) : (wdA p a).size = p.size + 1 := by
  unfold wdA
  have h1 : (p ++ ltB.extract a (a + 1)).size = p.size + (ltB.extract a (a + 1)).size := ByteArray.size_append
  have h3 : ltB.size = 16 := rfl
  have h2 : (ltB.extract a (a + 1)).size = 1 := by simp [h3]; omega
  omega
theorem bad_iff {l : List ByteArray} {p : ByteArray} {a : Nat} (hl : ∀ u ∈ l, u ≠ (⟨#[]⟩ : ByteArray)) (ha : a < 16) (hp : alwA l p = true) : alwA l (wdA p a) = !badA l (wdA p a) := by
  unfold alwA badA
  congr 1
  have hw := wd_size p a ha
  rw [Bool.eq_iff_iff, List.any_eq_true, List.any_eq_true]
  constructor
  · rintro ⟨u, hu, hc⟩
    refine ⟨u, hu, ?_⟩
    obtain ⟨i, k, h1, h2, h3⟩ := mem_facL.1 ((contains_iff (hl u hu)).1 hc)
    by_cases hk : k = (wdA p a).size
    · subst hk
      have hz : u.size = (wdA p a).size - i := by rw [h3]; simp
      rw [← Lib.hasSuffix_raw]
      have e1 : decide (u.size ≤ (wdA p a).size) = true := decide_eq_true (by omega)
      rw [e1, Bool.true_and, hz, show (wdA p a).size - ((wdA p a).size - i) = i by omega]
      exact bts_t h3.symm
    · have h4 : u ∈ facL p := by
        refine mem_facL.2 ⟨i, k, h1, by omega, ?_⟩
        rw [h3]; exact ext_left p _ i k (by omega)
      have h5 : l.any (fun u => Lib.contains p.data.toList u.data.toList) = true := List.any_eq_true.2 ⟨u, hu, (contains_iff (hl u hu)).2 h4⟩
      unfold alwA at hp
      rw [h5] at hp; cases hp
  · rintro ⟨u, hu, hc⟩
    refine ⟨u, hu, (contains_iff (hl u hu)).2 ?_⟩
    rw [← Lib.hasSuffix_raw, Bool.and_eq_true] at hc
    have h1 := of_decide_eq_true hc.1
    have h2 := (Lib.bytes_beq_iff _ _).1 hc.2
    have hpos : 0 < u.size := by
      rcases Nat.eq_zero_or_pos u.size with h | h
      · exfalso; apply hl u hu
        cases u with
        | mk d => have hd : d.size = 0 := h
                  rw [Array.eq_empty_of_size_eq_zero hd]
      · exact h
    exact mem_facL.2 ⟨(wdA p a).size - u.size, (wdA p a).size, by omega, Nat.le_refl _, h2.symm⟩
theorem stA_alw {l : List ByteArray} (hl : ∀ u ∈ l, u ≠ (⟨#[]⟩ : ByteArray)) {z : ByteArray} (hz : z ∈ stA l) : alwA l z = true := by
  have h := mem_insAll.1 hz
  unfold candF preF at h
  rcases List.mem_cons.1 h with h | h
  · subst h
    unfold alwA
    rw [Bool.not_eq_true', List.any_eq_false]
    intro u hu hc
    obtain ⟨i, k, h1, h2, _⟩ := mem_facL.1 ((contains_iff (hl u hu)).1 hc)
    have : (⟨#[]⟩ : ByteArray).size = 0 := rfl
    omega
  · obtain ⟨x, _, hu⟩ := List.mem_flatMap.1 h
    exact (List.mem_filter.1 hu).2
end Go.Proofs.YtaclgmhinljkbaaGreatDoor
namespace Go.Proofs.YtaclgmhinljkbaaGreatDoor
open Go.RowKit

/-- A set of states each of which has an edge from one of the set, and one to one of it. -/
def Sup (es : List Ed) (C : Int → Prop) : Prop := ∀ s, C s → (∃ x ∈ es, x.t = s ∧ C x.f) ∧ ∃ x ∈ es, x.f = s ∧ C x.t
theorem essP_iff {es : List Ed} {st : List Int} {s : Int} : essP es st s = true ↔ (∃ x ∈ es, x.t = s ∧ x.f ∈ st) ∧ ∃ x ∈ es, x.f = s ∧ x.t ∈ st := by
  simp [essP, cmsE, goesE, List.any_eq_true]
theorem sup_ess {es : List Ed} {C : Int → Prop} (hC : Sup es C) : ∀ n (st : List Int), st.length ≤ n → (∀ s, C s → s ∈ st) → ∀ s, C s → s ∈ ess es st := by
  intro n
  induction n with
  | zero =>
    intro st h hs
    have := essS_le es st
    rw [ess_stop (by omega)]; exact hs
  | succ n ih =>
    intro st h hs
    by_cases e : (essS es st).length = st.length
    · rw [ess_stop e]; exact hs
    · rw [ess_go e]
      refine ih _ (by have := essS_le es st; omega) (fun s hc => ?_)
      obtain ⟨⟨x, hx, e1, c1⟩, y, hy, e2, c2⟩ := hC s hc
      exact List.mem_filter.2 ⟨hs s hc, essP_iff.2 ⟨⟨x, hx, e1, hs _ c1⟩, y, hy, e2, hs _ c2⟩⟩
theorem ess_fix {es : List Ed} : ∀ n (st : List Int), st.length ≤ n → essS es (ess es st) = ess es st ∧ (ess es st).Sublist st := by
  intro n
  induction n with
  | zero =>
    intro st h
    have := essS_le es st
    rw [ess_stop (by omega)]; exact ⟨essS_eq (by omega), List.Sublist.refl _⟩
  | succ n ih =>
    intro st h
    by_cases e : (essS es st).length = st.length
    · rw [ess_stop e]; exact ⟨essS_eq e, List.Sublist.refl _⟩
    · rw [ess_go e]
      obtain ⟨a, b⟩ := ih (essS es st) (by have := essS_le es st; omega)
      exact ⟨a, b.trans List.filter_sublist⟩
/-- The states of the essential part. -/
def essT (G : Gr) : List Int := ess G.es (upto G.n.toNat)
theorem essT_st {G : Gr} (h : Vg G) : St G.n (essT G) := by
  have hs := (ess_fix (es := G.es) _ (upto G.n.toNat) (Nat.le_refl _)).2
  have hu := St.upto h.n1
  exact ⟨hu.srt.sublist hs, fun x hx => hu.ins x (hs.subset hx)⟩
theorem essT_P {G : Gr} {s : Int} (hs : s ∈ essT G) : essP G.es (essT G) s = true := by
  have h := (ess_fix (es := G.es) _ (upto G.n.toNat) (Nat.le_refl _)).1
  have : s ∈ essS G.es (essT G) := by rw [show essS G.es (essT G) = essT G from h]; exact hs
  exact (List.mem_filter.1 this).2
theorem essA_t {G : Gr} (h : Vg G) : essA G = (partA G (essT G), essT G, 0) := essA_ok (chkG_ok.2 h)
theorem iof_at {l : List Int} (hs : l.Pairwise (· < ·)) {i : Nat} (hi : i < l.length) : l.idxOf l[i] = i := by
  have hm : l[i] ∈ l := List.getElem_mem _
  have e := iof_get hm
  have hl := iof_lt hm
  rcases Nat.lt_trichotomy (l.idxOf l[i]) i with h | h | h
  · have := List.pairwise_iff_getElem.1 hs _ _ hl hi h; omega
  · exact h
  · have := List.pairwise_iff_getElem.1 hs _ _ hi hl h; omega
/-- Each state of the essential part has an edge to it and one from it. -/
theorem ess_edges {G : Gr} (h : Vg G) {t : Int} (h0 : 0 ≤ t) (h1 : t < (partA G (essT G)).n) : (∃ y ∈ (partA G (essT G)).es, y.t = t) ∧ ∃ y ∈ (partA G (essT G)).es, y.f = t := by
  have hs := essT_st h
  have hl : t.toNat < (essT G).length := by have : t < ((essT G).length : Int) := h1; omega
  have hm : (essT G)[t.toNat] ∈ essT G := List.getElem_mem _
  have hx := iof_at hs.srt hl
  obtain ⟨⟨x, hx1, e1, c1⟩, y, hy1, e2, c2⟩ := essP_iff.1 (essT_P hm)
  refine ⟨⟨_, List.mem_filterMap.2 ⟨x, hx1, part_go ⟨c1, by rw [e1]; exact hm⟩⟩, ?_⟩, ⟨_, List.mem_filterMap.2 ⟨y, hy1, part_go ⟨by rw [e2]; exact hm, c2⟩⟩, ?_⟩⟩
  · show (((essT G).idxOf x.t : Nat) : Int) = t
    rw [e1, hx]; omega
  · show (((essT G).idxOf y.f : Nat) : Int) = t
    rw [e2, hx]; omega
/-- The essential part of an essential part is itself. -/
theorem ess_ess {G : Gr} (h : Vg G) : essA (partA G (essT G)) = (partA G (essT G), upto (essT G).length, 0) := by
  have hs := essT_st h
  have hv := part_vg h hs
  have hn : (partA G (essT G)).n.toNat = (essT G).length := by show ((essT G).length : Int).toNat = _; omega
  have hst : ess (partA G (essT G)).es (upto (essT G).length) = upto (essT G).length := by
    refine ess_stop ?_
    have : essS (partA G (essT G)).es (upto (essT G).length) = upto (essT G).length := List.filter_eq_self.2 (fun t ht => by
      rw [mem_upto] at ht
      obtain ⟨⟨x, hx, e1⟩, y, hy, e2⟩ := ess_edges h ht.1 ht.2
      have ix := hv.ins x hx; have iy := hv.ins y hy
      have hnn : (partA G (essT G)).n = ((essT G).length : Int) := rfl
      exact essP_iff.2 ⟨⟨x, hx, e1, mem_upto.2 (by omega)⟩, y, hy, e2, mem_upto.2 (by omega)⟩)
    rw [this]
  rw [essA_ok (chkG_ok.2 hv), hn, hst]
  have := part_all hv
  rw [hn] at this
  rw [this]

/-! ### Closed paths -/
inductive Rch (es : List Ed) (a : Int) : Int → Prop
  | one {x : Ed} : x ∈ es → x.f = a → Rch es a x.t
  | more {x : Ed} : Rch es a x.f → x ∈ es → Rch es a x.t
theorem Rch.trans {es : List Ed} {a b c : Int} (h : Rch es a b) (k : Rch es b c) : Rch es a c := by
  induction k with
  | one hx e => subst e; exact .more h hx
  | more _ hx ih => exact .more ih hx
theorem Rch.head {es : List Ed} {a b : Int} (h : Rch es a b) : ∃ x ∈ es, x.f = a ∧ (x.t = b ∨ Rch es x.t b) := by
  induction h with
  | one hx e => exact ⟨_, hx, e, .inl rfl⟩
  | more _ hx ih =>
    obtain ⟨y, hy, e, h | h⟩ := ih
    · exact ⟨y, hy, e, .inr (.one hx h.symm)⟩
    · exact ⟨y, hy, e, .inr (.more h hx)⟩
theorem Rch.last {es : List Ed} {a b : Int} (h : Rch es a b) : ∃ x ∈ es, x.t = b ∧ (x.f = a ∨ Rch es a x.f) := by
  cases h with
  | one hx e => exact ⟨_, hx, rfl, .inl e⟩
  | more h hx => exact ⟨_, hx, rfl, .inr h⟩
theorem closed_ess {G : Gr} (h : Vg G) {a : Int} (hr : Rch G.es a a) : a ∈ essT G := by
  refine sup_ess (C := fun s => Rch G.es a s ∧ Rch G.es s a) (fun s hs => ⟨?_, ?_⟩) _ _ (Nat.le_refl _) (fun s hs => ?_) a ⟨hr, hr⟩
  · obtain ⟨x, hx, e, h1⟩ := hs.1.last
    refine ⟨x, hx, e, ?_⟩
    rcases h1 with h1 | h1
    · rw [h1]; exact ⟨hr, hr⟩
    · refine ⟨h1, Rch.trans (.one hx rfl) ?_⟩; rw [e]; exact hs.2
  · obtain ⟨x, hx, e, h1⟩ := hs.2.head
    refine ⟨x, hx, e, ?_⟩
    rcases h1 with h1 | h1
    · rw [h1]; exact ⟨hr, hr⟩
    · refine ⟨?_, h1⟩; exact Rch.trans hs.1 (.one hx e)
  · obtain ⟨x, hx, e, _⟩ := hs.1.last
    have := h.ins x hx; have := h.n1
    rw [mem_upto]; omega
end Go.Proofs.YtaclgmhinljkbaaGreatDoor
namespace Go.Proofs.YtaclgmhinljkbaaGreatDoor
open Go.RowKit Go.Sort Go.Shelf Go.Lib

theorem endA_stop {G : Gr} {st l : List Int} {k : Nat} (h : endA G st (l.take k) = []) : endA G st l = [] := by
  have e : endA G st l = endA G (endA G st (l.take k)) (l.drop k) := by
    unfold endA
    rw [← List.foldl_append, List.take_append_drop]
  rw [e, h, endA_nil]

set_option maxRecDepth 100000 in
set_option maxHeartbeats 2000000 in
theorem lEnds_any (G : Gr) (p : Option Addr) (c : Nat) (st : List Int) (q : Option Addr) (d : Nat) (s : ByteArray) (w : World) (hin : Sg 3 w edE p G.es) (hst : Sl w (Value.int .i64) q st) (hv : Vg G) (hS : St G.n st) (hw : Chg.okw G.q s.data.toList = true) (hs : s.size ≤ 65536) :
    Calls Tryz.prog 56 #[(.agg #[.int .i64 G.q, .int .i64 G.n, .slice p G.es.length c]), .slice q st.length d, .string s] w (LsOut (endA G st (ltr s)) w) := by
  have HIN := hidI hin; have HV := hidI hv; have HS := hidI hS; have HW := hidI hw
  have HST := hidI hst
  clear hin hst hv hS hw
  obtain ⟨w0, hw0⟩ : ∃ w0, w0 = w.alloc (.cells #[.int .i64 G.q, .int .i64 G.n, .slice p G.es.length c] 29) := ⟨_, rfl⟩
  have b0 : VRow w0 w.heap.size 29 [.int .i64 G.q, .int .i64 G.n, .slice p G.es.length c] := by subst hw0; exact VRow.new w _ _
  have hB0 : RowKit.Below w.heap.size w w0 := by subst hw0; exact (RowKit.Below.refl _ _).alloc (Nat.le_refl _) _
  have hE0 : endA G st ((ltr s).take 0) = st := rfl
  go_enter Tryz.func56, Tryz.ntmps56
  go_wp2
  rw [← hw0]
  clear hw0
  go_loopw [1, 7] (fun sv iv wr => ∃ (k : Nat) (qk : Option Addr) (dk : Nat), k ≤ s.size ∧ sv = .slice qk (endA G st ((ltr s).take k)).length dk ∧ iv = .int .i64 k ∧ Sl wr (Value.int .i64) qk (endA G st ((ltr s).take k)) ∧ RowKit.Below w0.heap.size w0 wr) (fun _ iv _ => s.size - (intOf iv).toNat)
  case atStart => exact ⟨0, q, d, by omega, by rw [hE0], rfl, by rw [hE0]; exact HST.out.below hB0, RowKit.Below.refl _ _⟩
  case round =>
    obtain ⟨k, qk, dk, hk, rfl, rfl, hsl, hB⟩ := hrel
    have HSK := hidI (endA_st G st HS.out ((ltr s).take k))
    have HSTOP := hidI (@endA_stop G st (ltr s) k)
    have xr := hB0.trans (hB.mono hB0.size)
    by_cases hlt : k < s.size
    · have HN : Hid (endA G st ((ltr s).take (k + 1)) = nextA G (endA G st ((ltr s).take k)) (Chg.dig (s[k].toNat : Int))) := by rw [Hid, ltr_take s k hlt, endA_snoc]
      generalize endA G st ((ltr s).take k) = L at *
      have hltN : (k : Int) < (s.size : Int) := by omega
      by_cases hL : 0 < L.length
      · have hLi : (0 : Int) < (L.length : Int) := by omega
        have hd := okw_at HW.out k hlt
        have r0 := b0.below hB b0.lt
        go_upto_region 4 with fail
        refine region_tail 5 (by kernel_rfl) (by kernel_rfl) fun W hD => ?_
        have g0 := (r0.dr hD).at 0 rfl; have g1 := (r0.dr hD).at 1 rfl; have g2 := (r0.dr hD).at 2 rfl
        have hBW := hB.trans (hD.below _)
        have xw := xr.trans (hD.below _)
        have hslW := hsl.dr hD
        clear r0
        simp only [List.take_succ_cons, List.take_zero, List.drop_succ_cons, List.drop_zero]
        iterate 5 still_step
        refine wpStill_nil ?_
        go_wp2_with fail
        refine (lStep_any G p c L qk dk s[k] W (HIN.out.below xw) hslW HV.out HSK.out hd.1 hd.2).mono ?_
        rintro e w2 ⟨p', m', c', rfl, hown, hB2⟩
        obtain ⟨q2, d2, he, hs2⟩ := own_sl hown
        cases he
        go_wp2
        go_roundw
        case rel => exact ⟨k + 1, p', c', by omega, by rw [HN.out], by go_num, by rw [HN.out]; exact hs2, hBW.trans (hB2.mono hBW.size)⟩
        case measure => simp [intOf]; omega
      · have hLi : ¬ (0 : Int) < (L.length : Int) := by omega
        have HE : Hid (endA G st (ltr s) = L) := by
          have h0 : L = [] := List.eq_nil_of_length_eq_zero (by omega)
          rw [Hid, h0]; exact HSTOP.out h0
        clear hL
        go_wp2
        go_ret
        exact ⟨qk, dk, by rw [HE.out]; rfl, by rw [HE.out]; exact hsl, xr⟩
    · obtain rfl : k = s.size := by omega
      have hkk : ¬ ((s.size : Int)) < (s.size : Int) := by omega
      have HE : Hid (endA G st (ltr s) = endA G st ((ltr s).take s.size)) := by rw [Hid, ltr_all]
      generalize endA G st ((ltr s).take s.size) = L at *
      go_wp2
      go_ret
      exact ⟨qk, dk, by rw [HE.out]; rfl, by rw [HE.out]; exact hsl, xr⟩

end Go.Proofs.YtaclgmhinljkbaaGreatDoor
