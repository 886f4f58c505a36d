/-
  Walks: Decode of the program.
-/
import Derived.Test.YthfgdahooigifaaLkG
import Derived.Test.YthfgdahooigifaaLook3
namespace Go.Proofs.Ythfgdahooigifaa
open Go.RowKit

def okS (s : ByteArray) : Prop := s.size ≤ maxLen
theorem keyS : KeyBy Try.prog 9 Value.string okS where
  law := Maps.string_keyed Try.underlying9
  reads := fun a ha => ⟨.string a.data.toList, by simp [keyOf, mapKey, Try.underlying9]; exact ha⟩
  inj := fun a b _ _ h => by simpa using h
theorem zeroSlI (w : World) : (zeroValue 26).run Try.prog w = .ok (.slice none 0 0) w := by kernel_rfl
theorem infoI : (Try.prog.info? 3).map (fun i => (i.zero, i.size, i.bytes)) = some (some (.int .i64 0), 1, 8) := by kernel_rfl

theorem cell_turn {W w1 : World} {b : Nat} (h : W.mapTurned w1 b) {p : Addr} {v : Value} (hc : W.cell? p = some v) : w1.cell? p = some v := by
  obtain ⟨es, clock, es', clock', hb, rfl⟩ := h
  by_cases e : p.block = b
  · simp [World.cell?, e, hb] at hc
  · exact (World.cell?_of_block (ChangeMaps.heap_setBlock_other hb _ e)).trans hc
theorem Sl.turn {α : Type} {W w1 : World} {b : Nat} {enc : α → Value} {p : Option Addr} {l : List α} (h : Sl W enc p l) (ht : W.mapTurned w1 b) : Sl w1 enc p l := by
  rcases h with h | ⟨b', off, hp, hb, hc⟩
  · exact .inl h
  · exact .inr ⟨b', off, hp, Nat.lt_of_lt_of_le hb ht.grown.size, fun i hi => cell_turn ht (hc i hi)⟩
/-- Block b is a map of words to lists of numbers that answers as rd does. -/
def MapRd (b : Nat) (rd : ByteArray → Option (List Int)) (w : World) : Prop :=
  ∃ f : ByteArray → Option Value, Mp Value.string okS (fun v => v) w b f ∧ ∀ s, (rd s = none ∧ f s = none) ∨ ∃ l p c, rd s = some l ∧ f s = some (.slice p l.length c) ∧ Sl w (Value.int .i64) p l
theorem MapRd.made (w : World) : MapRd w.heap.size (fun _ => none) (w.alloc (.map #[] 0)) := ⟨_, Mp.made w, fun _ => .inl ⟨rfl, rfl⟩⟩
theorem MapRd.congr {b : Nat} {rd rd' : ByteArray → Option (List Int)} {w : World} (h : MapRd b rd w) (e : ∀ s, rd s = rd' s) : MapRd b rd' w := by
  have : rd = rd' := funext e
  exact this ▸ h
theorem MapRd.below {b : Nat} {rd : ByteArray → Option (List Int)} {w w' : World} (h : MapRd b rd w) (hB : Below w.heap.size w w') : MapRd b rd w' := by
  obtain ⟨f, hM, hf⟩ := h
  refine ⟨f, hM.below hB hM.lt, fun s => ?_⟩
  rcases hf s with h | ⟨l, p, c, h1, h2, h3⟩
  · exact .inl h
  · exact .inr ⟨l, p, c, h1, h2, h3.below hB⟩
theorem MapRd.put {b : Nat} {rd : ByteArray → Option (List Int)} {w w1 : World} {f : ByteArray → Option Value} (hf : ∀ s, (rd s = none ∧ f s = none) ∨ ∃ l p c, rd s = some l ∧ f s = some (.slice p l.length c) ∧ Sl w (Value.int .i64) p l)
    (k : ByteArray) {l : List Int} {p : Option Addr} {c : Nat} (hM : Mp Value.string okS (fun v => v) w1 b (mset f k (.slice p l.length c))) (ht : w.mapTurned w1 b) (hs : Sl w (Value.int .i64) p l) :
    MapRd b (fun s => if s = k then some l else rd s) w1 := by
  refine ⟨_, hM, fun s => ?_⟩
  by_cases e : s = k
  · exact .inr ⟨l, p, c, by simp [e], by simp [mset, e], hs.turn ht⟩
  · rcases hf s with h | ⟨l', p', c', h1, h2, h3⟩
    · exact .inl ⟨by simp [e, h.1], by simp [mset, e, h.2]⟩
    · exact .inr ⟨l', p', c', by simp [e, h1], by simp [mset, e, h2], h3.turn ht⟩
def rdB (T : Tb) (k : Nat) (s : ByteArray) : Option (List Int) := (baseF T.base s k).map (fun k => [k])
theorem rdB_succ (T : Tb) (k : Nat) (s : ByteArray) : (if s = bget T.base k then some [(k : Int)] else rdB T k s) = rdB T (k + 1) s := by
  unfold rdB; rw [baseF]; split <;> rfl
def rdS (T : Tb) (k : Nat) (s : ByteArray) : Option (List Int) := swF T.swaps s (bOf T s) k
theorem rdS_succ (T : Tb) (k : Nat) (s : ByteArray) : (if s = (sget T.swaps k).wd then some [(sget T.swaps k).i, (sget T.swaps k).j] else rdS T k s) = rdS T (k + 1) s := by
  unfold rdS; rw [swF]

theorem mod_nat {a : Nat} {n : Int} (hn : 1 ≤ n) (h : (a : Int) % n = 0) : a % n.toNat = 0 := by
  obtain ⟨m, rfl⟩ : ∃ m : Nat, n = m := ⟨n.toNat, by omega⟩
  rw [Int.toNat_natCast]; omega
theorem mod_nat_ne {a : Nat} {n : Int} (hn : 1 ≤ n) (h : (a : Int) % n ≠ 0) : a % n.toNat ≠ 0 := by
  obtain ⟨m, rfl⟩ : ∃ m : Nat, n = m := ⟨n.toNat, by omega⟩
  rw [Int.toNat_natCast]; omega
theorem news_sl {w : World} {b off : Nat} {l : List Int} (h : ∀ i (hi : i < l.length), w.cell? ⟨b, off + i, none⟩ = some (.int .i64 l[i])) : ∀ (j : Nat) (u : Value), (l.map (Value.int .i64))[j]? = some u → w.cell? ((⟨b, off, none⟩ : Addr).add j) = some u := by
  intro j u hu
  rw [List.getElem?_map, Option.map_eq_some_iff] at hu
  obtain ⟨x, hx, rfl⟩ := hu
  obtain ⟨hj, rfl⟩ := List.getElem?_eq_some_iff.1 hx
  rw [show ((⟨b, off, none⟩ : Addr).add j) = ⟨b, off + j, none⟩ from by unfold Addr.add; split <;> simp_all]; exact h j hj
theorem MapRd.look_hit {b : Nat} {rd : ByteArray → Option (List Int)} {w : World} (h : MapRd b rd w) (s : ByteArray) (hs : okS s) {l : List Int} (hl : rd s = some l) :
    ∃ p c, (Instr.lookup 62 (.map (some b)) (.string s) true).run Try.prog w = .ok (.tuple #[.slice p l.length c, .bool true]) w ∧ Sl w (Value.int .i64) p l := by
  obtain ⟨f, hM, hf⟩ := h
  rcases hf s with h | ⟨l', p, c, h1, h2, h3⟩
  · rw [h.1] at hl; cases hl
  · rw [h1] at hl; cases hl
    refine ⟨p, c, ?_, h3⟩
    have := Mp.look hM keyS Try.underlying62 (zeroSlI w) s hs true
    rw [h2] at this; exact this
theorem MapRd.look_miss {b : Nat} {rd : ByteArray → Option (List Int)} {w : World} (h : MapRd b rd w) (s : ByteArray) (hs : okS s) (hl : rd s = none) :
    (Instr.lookup 62 (.map (some b)) (.string s) true).run Try.prog w = .ok (.tuple #[.slice none 0 0, .bool false]) w := by
  obtain ⟨f, hM, hf⟩ := h
  rcases hf s with h | ⟨l', p, c, h1, h2, h3⟩
  · have := Mp.look hM keyS Try.underlying62 (zeroSlI w) s hs true
    rw [h.2] at this; exact this
  · rw [h1] at hl; cases hl
/-- A slice of numbers, and an error number, in memory of the call's own. -/
def RetSlI (r : List Int) (k : Int) (w : World) (e : Ending) (w' : World) : Prop :=
  ∃ q d, e = .returned (.tuple #[.slice q r.length d, .int .i64 k]) ∧ Sl w' (Value.int .i64) q r ∧ Below w.heap.size w w'
theorem RetSlI.mk {x : List Int × Int} {r' : List Int} {k' : Int} {w w' : World} {q : Option Addr} {d : Nat} (hr : x = (r', k')) (hs : Sl w' (Value.int .i64) q r') (hB : Below w.heap.size w w') :
    RetSlI x.1 x.2 w (.returned (.tuple #[.slice q r'.length d, .int .i64 k'])) w' := by
  subst hr; exact ⟨q, d, rfl, hs, hB⟩
theorem RetSlI.nil {x : List Int × Int} {k' : Int} {w w' : World} {q : Option Addr} {d : Nat} (hr : x = ([], k')) (hB : Below w.heap.size w w') :
    RetSlI x.1 x.2 w (.returned (.tuple #[.slice q 0 d, .int .i64 k'])) w' := by
  subst hr; exact ⟨q, d, rfl, Sl.nil _ _ _, hB⟩
theorem cur_one {a : Nat} {n : Int} (hn : 1 ≤ n) (h : (a : Int) % n = 0) (h0 : a ≠ 0) (h2 : ¬ 2 * n ≤ (a : Int)) : a = n.toNat := by
  have hd := Int.mul_ediv_add_emod (a : Int) n
  rw [h] at hd
  have h1 : 0 ≤ (a : Int) / n := Int.ediv_nonneg (by omega) (by omega)
  by_cases q : (a : Int) / n = 1
  · rw [q] at hd; omega
  · by_cases q0 : (a : Int) / n = 0
    · rw [q0] at hd; omega
    · have : n * 2 ≤ n * ((a : Int) / n) := Int.mul_le_mul_of_nonneg_left (by omega) (by omega)
      omega
def strLen : Value → Nat | .string s => s.size | _ => 0
set_option maxRecDepth 100000 in
set_option maxHeartbeats 4000000 in
theorem lkDecode_ok (T : Tb) (p1 p2 : Option Addr) (c1 c2 : Nat) (s : ByteArray) (w : World) (hin : TbIn w T p1 p2 c1 c2) (hs : s.size ≤ maxLen) (hf : fmd T = true) (hck : wchk T.q s.data.toList = 0) :
    Calls Try.prog 9 #[.agg #[.int .i64 T.q, .int .i64 T.n, .slice p1 T.base.length c1, .slice p2 T.swaps.length c2], .string s] w (RetSlI (decA T s).1 (decA T s).2 w) := by
  have hB0 : Below w.heap.size w (w.alloc (.cells #[.int .i64 T.q, .int .i64 T.n, .slice p1 T.base.length c1, .slice p2 T.swaps.length c2] 25)) := (Below.refl _ _).alloc (Nat.le_refl _) _
  have b0 : VRow (w.alloc (.cells #[.int .i64 T.q, .int .i64 T.n, .slice p1 T.base.length c1, .slice p2 T.swaps.length c2] 25)) w.heap.size 25 [.int .i64 T.q, .int .i64 T.n, .slice p1 T.base.length c1, .slice p2 T.swaps.length c2] := VRow.new w _ _
  obtain ⟨i0, hi0, hz0, hz1, hz3⟩ := info_parts infoI
  have HF := hidI hf
  have HC := hidI hck
  have hsz := wchk_long' T.q s hck
  obtain ⟨n1, n2⟩ := fmd_bd hf
  have HIN := hidI hin
  have hl1 := hin.l1
  have hl2 := hin.l2
  clear hf hck
  have hmm := @run_makeMap Try.prog
  go_enter Try.func9, Try.ntmps9
  go_wp2_with fail
  refine (lkFormed_any T p1 p2 c1 c2 _ (hin.below hB0)).mono ?_
  rintro e w1 ⟨rfl, hB1⟩
  rw [HF.out]
  have hBa := hB0.trans (hB1.mono hB0.size)
  have hb1 := b0.below hB1 (by simp)
  clear hB1 b0 hB0
  have f0 := hb1.at 0 rfl
  go_wp2_with fail
  refine (wcheck_any T.q s _ hs).mono ?_
  rintro e w2 ⟨rfl, hD⟩
  rw [HC.out]
  have hBb := hBa.trans (hD.below _)
  have hb2 := hb1.dr hD
  clear f0 hb1
  have f1 := hb2.at 1 rfl; have f2 := hb2.at 2 rfl; have f3 := hb2.at 3 rfl
  have hz2 := hb2.lt
  by_cases hmod : (s.size : Int) % T.n = 0
  · have hmodb : ((s.size : Int) % T.n == 0) = true := by simpa using hmod
    have hmodc : ((s.size : Int) % T.n != 0) = false := by simpa using hmod
    have HMOD := hidI hmod
    have HSM : Hid (s.size % T.n.toNat = 0) := mod_nat n1 hmod
    clear hmod
    go_wp2
    clear hmodb hmodc
    clear f1 f2 f3
    have hbM := (hb2.alloc (.map #[] 0))
    have hBM := hBb.alloc hBb.size (.map #[] 0)
    go_loopw [36] (fun iv wr => ∃ k : Nat, k ≤ T.base.length ∧ iv = .int .i64 k ∧ MapRd w2.heap.size (rdB T k) wr ∧ VRow wr w.heap.size 25 [.int .i64 T.q, .int .i64 T.n, .slice p1 T.base.length c1, .slice p2 T.swaps.length c2] ∧ Below w.heap.size w wr) (fun iv _ => T.base.length - (intOf iv).toNat)
    case atStart => exact ⟨0, by omega, rfl, MapRd.made w2, hbM, hBM⟩
    case round =>
      clear hbM hBM
      obtain ⟨k, hk, rfl, ⟨f, hM, hfr⟩, hb, hB⟩ := hrel
      by_cases hlt : k < T.base.length
      · obtain ⟨b3, o3, rfl, _, hc3⟩ := (HIN.out.base.below hB).get k hlt
        have e0 := hc3 k hlt
        have HG := hidI (bget_eq T.base k hlt)
        have hok : okS T.base[k] := HIN.out.z1 k hlt
        have HFR := hidI hfr
        clear hc3 hfr hin
        go_wp2_with (at_mapUpdate; refine wpList_update_mp rfl _ _ _ 62 rfl 26 keyS Try.underlying62 w2.heap.size f rfl (hM.alloc _) T.base[k] rfl hok (.slice (some ⟨wr.heap.size, 0, none⟩) 1 1) rfl ?_; intro w3 hM1 hturn)
        have hMR := MapRd.put (w := wr.alloc (.cells #[.int .i64 k] 3)) (l := [(k : Int)]) (f := f) (rd := rdB T k) (fun s => (HFR.out s).imp id (fun ⟨l, p, c, h1, h2, h3⟩ => ⟨l, p, c, h1, h2, h3.below ((Below.refl _ _).alloc (Nat.le_refl _) _)⟩)) T.base[k] hM1 hturn (Sl.of_vrow (VRow.new wr 3 [.int .i64 k]))
        go_roundw
        case rel => exact ⟨k + 1, by omega, by go_num, hMR.congr (fun s => by rw [← HG.out]; exact rdB_succ T k s), (hb.alloc _).grown hturn.grown (fun e => by have := Option.some.inj e; omega), (hB.alloc hB.size _).grown hturn.grown (Nat.le_trans hB.size (by simp)) (fun j e => by have := Option.some.inj e; omega)⟩
        case measure => simp [intOf]; omega
      · obtain rfl : k = T.base.length := by omega
        have hMR0 : MapRd w2.heap.size (rdS T 0) wr := ⟨f, hM, hfr⟩
        clear hfr hM
        have f3 := hb.at 3 rfl
        go_wp2
        clear hlt hk f3
        go_loopw [49] (fun iv wr => ∃ k : Nat, k ≤ T.swaps.length ∧ iv = .int .i64 k ∧ MapRd w2.heap.size (rdS T k) wr ∧ VRow wr w.heap.size 25 [.int .i64 T.q, .int .i64 T.n, .slice p1 T.base.length c1, .slice p2 T.swaps.length c2] ∧ Below w.heap.size w wr) (fun iv _ => T.swaps.length - (intOf iv).toNat)
        case atStart => exact ⟨0, by omega, rfl, hMR0, hb, hB⟩
        case round =>
          clear hMR0 hb hB
          obtain ⟨k, hk, rfl, ⟨f, hM, hfr⟩, hb, hB⟩ := hrel
          by_cases hlt : k < T.swaps.length
          · obtain ⟨b3, o3, rfl, hb3, e0, e1, e2⟩ := (HIN.out.swaps.below hB).get3 k hlt rfl
            have HG := hidI (sget_eq T.swaps k hlt)
            have hok : okS T.swaps[k].wd := HIN.out.z2 k hlt
            have HFR := hidI hfr
            clear hfr
            go_wp2_with (at_mapUpdate; refine wpList_update_mp rfl _ _ _ 62 rfl 26 keyS Try.underlying62 w2.heap.size f rfl ((hM.alloc _).alloc _) T.swaps[k].wd rfl hok (.slice (some ⟨wr.heap.size + 1, 0, none⟩) 2 2) rfl ?_; intro w3 hM1 hturn)
            have hv2 := (VRow.new1 wr (.cells #[.int .i64 T.swaps[k].i, .int .i64 T.swaps[k].j, .string T.swaps[k].wd] 41) 3 [.int .i64 T.swaps[k].i, .int .i64 T.swaps[k].j])
            have hBn : Below wr.heap.size wr ((wr.alloc (.cells #[.int .i64 T.swaps[k].i, .int .i64 T.swaps[k].j, .string T.swaps[k].wd] 41)).alloc (.cells #[.int .i64 T.swaps[k].i, .int .i64 T.swaps[k].j] 3)) := ((Below.refl _ _).alloc (Nat.le_refl _) _).alloc (by simp) _
            have hMR := MapRd.put (w := (wr.alloc (.cells #[.int .i64 T.swaps[k].i, .int .i64 T.swaps[k].j, .string T.swaps[k].wd] 41)).alloc (.cells #[.int .i64 T.swaps[k].i, .int .i64 T.swaps[k].j] 3)) (l := [T.swaps[k].i, T.swaps[k].j]) (f := f) (rd := rdS T k)
              (fun s => (HFR.out s).imp id (fun ⟨l, p, c, h1, h2, h3⟩ => ⟨l, p, c, h1, h2, h3.below hBn⟩)) T.swaps[k].wd hM1 hturn (Sl.of_vrow hv2)
            go_roundw
            case rel => exact ⟨k + 1, by omega, by go_num, hMR.congr (fun s => by rw [← HG.out]; exact rdS_succ T k s), ((hb.alloc _).alloc _).grown hturn.grown (fun e => by have := Option.some.inj e; omega), ((hB.alloc hB.size _).alloc (Nat.le_trans hB.size (by simp)) _).grown hturn.grown (Nat.le_trans hB.size (by simp; omega)) (fun j e => by have := Option.some.inj e; omega)⟩
            case measure => simp [intOf]; omega
          · obtain rfl : k = T.swaps.length := by omega
            have hMR : MapRd w2.heap.size (rdF T) wr := ⟨f, hM, hfr⟩
            have f3 := hb.at 3 rfl
            clear hfr hM
            go_wp2
            clear hlt hk f3
            have hzb : w2.heap.size < wr.heap.size := by obtain ⟨f, hM, _⟩ := hMR; exact hM.lt
            have HMR := hidI hMR
            have HBX := hidI hb
            have HB := hidI hB
            clear hMR hb hB
            obtain ⟨wl, rfl⟩ : ∃ wl : World, wl = wr := ⟨_, rfl⟩
            go_loopw [1, 12] (fun cv ov wr => ∃ (cur : ByteArray) (out : List Int), cv = .string cur ∧ Hid ((decF T cur).map (out ++ ·) = decF T s) ∧ (cur.size : Int) % T.n = 0 ∧ out.length + 2 * cur.size ≤ 2 * s.size ∧ cur.size ≤ 65536 ∧
                wr.ownsRow wl.heap.size 3 1 ov out.length (out.map (Value.int .i64)) ∧ Below wl.heap.size wl wr) (fun cv _ _ => strLen cv)
            case atStart => exact ⟨s, [], rfl, by unfold Hid; simp, HMOD.out, by simp, hsz, World.ownsRow_nil _ _ _ _, Below.refl _ _⟩
            case round =>
              obtain ⟨cur, out, rfl, hd, hcm, hol, hcz, hown, hB⟩ := hrel
              have hMR := HMR.out.below hB
              have hbx := HBX.out.below hB HBX.out.lt
              have f1 := hbx.at 1 rfl
              by_cases h0 : cur.size = 0
              · obtain ⟨d0⟩ := cur
                have : d0 = #[] := Array.eq_empty_of_size_eq_zero h0
                subst this
                have HR : Hid (decA T s = (out, 0)) := decA_ok HF.out HC.out HSM.out (by rw [← hd.out, decF_nil T h0]; simp)
                obtain ⟨q, d, rfl, hsl⟩ := own_sl hown
                go_wp2
                go_ret2
                exact RetSlI.mk HR.out hsl (HB.out.trans (hB.mono HB.out.size))
              · have hne : cur.toList.isEmpty = false := ne_empty (by omega)
                have hn0 : 0 < T.n.toNat := by omega
                have okx : ∀ k : Nat, okS (cur.extract 0 k) := fun k => by unfold okS maxLen; rw [ByteArray.size_extract]; omega
                by_cases h2 : 2 * T.n ≤ (cur.size : Int)
                · have hmin : min (2 * T.n) (cur.size : Int) = 2 * T.n := by omega
                  have ht2 : (2 * T.n).toNat = 2 * T.n.toNat := by omega
                  cases hr1 : rdF T (cur.extract 0 (2 * T.n.toNat)) with
                  | some l1 =>
                    have hl1 := rdF_len hr1
                    obtain ⟨p, c, hlk, hsl⟩ := MapRd.look_hit hMR _ (okx _) hr1
                    rw [← ht2] at hlk
                    have HT2 := hidI ht2
                    clear ht2 hMR
                    obtain ⟨b4, o4, rfl, _, hc4⟩ := hsl.get 0 hl1.1
                    have hnew : ∀ (j : Nat) (u : Value), (l1.map (Value.int .i64))[j]? = some u → wr.cell? ((⟨b4, o4, none⟩ : Addr).add j) = some u := news_sl hc4
                    have HDS := hidI (decF_on hd.out (by rw [HT2.out]; exact decF_step hn0 h0 (by omega) (step_swap (by omega) hr1) : decF T cur = (decF T (cur.extract (2 * T.n).toNat cur.size)).map (l1 ++ ·)))
                    have HSZ := hidI (ext_size cur (2 * T.n).toNat)
                    have hcm2 : ((cur.size : Int) - (2 * T.n)) % T.n = 0 := mod_sub hcm (by simp)
                    have HCM := hidI hcm2
                    clear hc4 hcm2
                    go_wp2_with (at_builtin; refine wpList_append_own _ rfl _ _ 26 rfl wl.heap.size 3 i0 (.int .i64 0) 1 8 Try.underlying26 hi0 hz0 hz1 hz3 rfl (by decide) _ _ _ rfl hown ⟨b4, o4, none⟩ l1.length c (l1.map (Value.int .i64)) rfl (by simp) hnew (by simp [Value.oneCell']) (by simp [maxLen]; omega) (by omega) hB.size ?_; intro v' w5 hown' hgrow _)
                    go_roundw
                    case rel =>
                      refine ⟨cur.extract (2 * T.n).toNat cur.size, out ++ l1, rfl, HDS, ?_, ?_, ?_, by rw [List.length_append, List.map_append]; exact hown', hB.grown hgrow hB.size (fun j e => (hown.lt j e).1)⟩
                      · rw [HSZ.out, Int.natCast_sub (by omega), show (((2 * T.n).toNat : Nat) : Int) = 2 * T.n by omega]; exact HCM.out
                      · rw [List.length_append, HSZ.out]; omega
                      · rw [HSZ.out]; omega
                    case measure => simp [strLen]; omega
                  | none =>
                    have hlk := MapRd.look_miss hMR _ (okx _) hr1
                    rw [← ht2] at hlk
                    have HT2 := hidI ht2
                    clear ht2
                    cases hr2 : rdF T (cur.extract 0 T.n.toNat) with
                    | some l1 =>
                      have hl1 := rdF_len hr2
                      obtain ⟨p, c, hlk2, hsl⟩ := MapRd.look_hit hMR _ (okx _) hr2
                      clear hMR
                      obtain ⟨b4, o4, rfl, _, hc4⟩ := hsl.get 0 hl1.1
                      have hnew : ∀ (j : Nat) (u : Value), (l1.map (Value.int .i64))[j]? = some u → wr.cell? ((⟨b4, o4, none⟩ : Addr).add j) = some u := news_sl hc4
                      have HDS := hidI (decF_on hd.out (decF_step hn0 h0 hn0 ((step_base (fun _ => hr1)).trans (by rw [hr2]; rfl))))
                      have HSZ := hidI (ext_size cur (T.n).toNat)
                      have hcm2 : ((cur.size : Int) - (T.n)) % T.n = 0 := mod_sub hcm (by simp)
                      have HCM := hidI hcm2
                      clear hc4 hcm2
                      go_wp2_with (at_builtin; refine wpList_append_own _ rfl _ _ 26 rfl wl.heap.size 3 i0 (.int .i64 0) 1 8 Try.underlying26 hi0 hz0 hz1 hz3 rfl (by decide) _ _ _ rfl hown ⟨b4, o4, none⟩ l1.length c (l1.map (Value.int .i64)) rfl (by simp) hnew (by simp [Value.oneCell']) (by simp [maxLen]; omega) (by omega) hB.size ?_; intro v' w5 hown' hgrow _)
                      go_roundw
                      case rel =>
                        refine ⟨cur.extract (T.n).toNat cur.size, out ++ l1, rfl, HDS, ?_, ?_, ?_, by rw [List.length_append, List.map_append]; exact hown', hB.grown hgrow hB.size (fun j e => (hown.lt j e).1)⟩
                        · rw [HSZ.out, Int.natCast_sub (by omega), show (((T.n).toNat : Nat) : Int) = T.n by omega]; exact HCM.out
                        · rw [List.length_append, HSZ.out]; omega
                        · rw [HSZ.out]; omega
                      case measure => simp [strLen]; omega
                    | none =>
                      have hlk2 := MapRd.look_miss hMR _ (okx _) hr2
                      clear hMR
                      have HR := hidI (decA_word HF.out HC.out HSM.out (by rw [← hd.out, decF_fail h0 ((step_base (fun _ => hr1)).trans (by rw [hr2]; rfl))]; rfl))
                      go_wp2
                      go_ret2
                      exact RetSlI.nil HR.out (HB.out.trans (hB.mono HB.out.size))
                · have hmin : min (2 * T.n) (cur.size : Int) = (cur.size : Int) := by omega
                  have hcn : cur.size = T.n.toNat := cur_one n1 hcm h0 h2
                  have hcu : cur.extract 0 T.n.toNat = cur := by rw [← hcn]; simp
                  have HCN := hidI hcn
                  have hle : T.n ≤ (cur.size : Int) := by omega
                  have HCU := hidI hcu
                  have okc : okS cur := by unfold okS maxLen; omega
                  cases hr1 : rdF T cur with
                  | some l1 =>
                    have hl1 := rdF_len hr1
                    obtain ⟨p, c, hlk, hsl⟩ := MapRd.look_hit hMR _ okc hr1
                    clear hMR hcn hcu
                    obtain ⟨b4, o4, rfl, _, hc4⟩ := hsl.get 0 hl1.1
                    have hnew : ∀ (j : Nat) (u : Value), (l1.map (Value.int .i64))[j]? = some u → wr.cell? ((⟨b4, o4, none⟩ : Addr).add j) = some u := news_sl hc4
                    have HDS := hidI (decF_on hd.out (decF_step hn0 h0 hn0 ((step_base (fun h => absurd h (by omega))).trans (by rw [HCU.out, hr1]; rfl))))
                    rw [← HCN.out] at HDS
                    have hxe : cur.extract cur.size cur.size = ByteArray.empty := by simp
                    rw [hxe] at HDS
                    clear hxe
                    clear hc4
                    go_wp2_with (at_builtin; refine wpList_append_own _ rfl _ _ 26 rfl wl.heap.size 3 i0 (.int .i64 0) 1 8 Try.underlying26 hi0 hz0 hz1 hz3 rfl (by decide) _ _ _ rfl hown ⟨b4, o4, none⟩ l1.length c (l1.map (Value.int .i64)) rfl (by simp) hnew (by simp [Value.oneCell']) (by simp [maxLen]; omega) (by omega) hB.size ?_; intro v' w5 hown' hgrow _)
                    go_roundw
                    case rel =>
                      refine ⟨ByteArray.empty, out ++ l1, rfl, HDS, ?_, ?_, ?_, by rw [List.length_append, List.map_append]; exact hown', hB.grown hgrow hB.size (fun j e => (hown.lt j e).1)⟩
                      · simp
                      · rw [List.length_append, ByteArray.size_empty]; omega
                      · rw [ByteArray.size_empty]; omega
                    case measure => simp [strLen]; omega
                  | none =>
                    have hlk := MapRd.look_miss hMR _ okc hr1
                    have hlk2 := hlk
                    rw [← hcu] at hlk2
                    clear hMR hcn hcu
                    have HR := hidI (decA_word HF.out HC.out HSM.out (by rw [← hd.out, decF_fail h0 ((step_base (fun h => absurd h (by omega))).trans (by rw [HCU.out, hr1]; rfl))]; rfl))
                    go_wp2
                    go_ret2
                    exact RetSlI.nil HR.out (HB.out.trans (hB.mono HB.out.size))
  · have HR := hidI (decA_mod HF.out HC.out (mod_nat_ne n1 hmod))
    have hmodb : ((s.size : Int) % T.n == 0) = false := by simpa using hmod
    have hmodc : ((s.size : Int) % T.n != 0) = true := by simpa using hmod
    go_wp2
    go_ret2
    exact RetSlI.nil HR.out hBb
end Go.Proofs.Ythfgdahooigifaa
