/-
  Words, plain lemmas and walks, merged: LkH, LkM, LkI, LkN, Law, Vi, Ra.
-/
import Derived.Test.YtjponanfpdmeoaaGreatDoorZkg
import Derived.Test.YtjponanfpdmeoaaGreatDoorZkc
import Derived.Maps.AppendAt
import Derived.Lib.AppendZerosOnto
import Derived.Deep.RegionHeld3
import Derived.Deep.DeepCutAuto
import Derived.Test.YtjponanfpdmeoaaGreatDoorRows
import Derived.ProofKit
import Derived.OpenShut
import Derived.ShutString
import Derived.SliceStrings
import Derived.Lib.SmallJoins
import Derived.Deep.Slices
import Derived.Deep.Fields
import Derived.ChangeSame
import Derived.Test.YtjponanfpdmeoaaGreatDoorTie
import Derived.Test.YtjponanfpdmeoaaGreatDoorCards
import Derived.LaidMore
import Derived.LaidSub
import Derived.SevenTiedAt
import Derived.Carry
import Derived.Test.YtjponanfpdmeoaaGreatDoorZkf
import Derived.Maps.RangeRun
import Derived.OwnWalkIn
set_option linter.unusedVariables false
set_option linter.unusedSimpArgs false
namespace Go.Proofs.YtjponanfpdmeoaaGreatDoor
open Go.RowKit

def okS (s : ByteArray) : Prop := s.size ≤ maxLen
theorem keyS : KeyBy Tryz.prog 9 Value.string okS where
  law := Maps.string_keyed Tryz.underlying9
  reads := fun a ha => ⟨.string a.data.toList, by simp [keyOf, mapKey, Tryz.underlying9]; exact ha⟩
  inj := fun a b _ _ h => by simpa using h
theorem zeroSlI (w : World) : (zeroValue 43).run Tryz.prog w = .ok (.slice none 0 0) w := by kernel_rfl
theorem infoI : (Tryz.prog.info? 3).map (fun i => (i.zero, i.size, i.bytes)) = some (some (.int .i64 0), 1, 8) := by kernel_rfl

theorem cell_turn {W w1 : World} {b : Nat} (h : W.mapTurned w1 b) {p : Addr} {v : Value} (hc : W.cell? p = some v) : w1.cell? p = some v := by
  obtain ⟨es, clock, es', clock', hb, rfl⟩ := h
  by_cases e : p.block = b
  · simp [World.cell?, e, hb] at hc
  · exact (World.cell?_of_block (ChangeMaps.heap_setBlock_other hb _ e)).trans hc
theorem Sl.turn {α : Type} {W w1 : World} {b : Nat} {enc : α → Value} {p : Option Addr} {l : List α} (h : Sl W enc p l) (ht : W.mapTurned w1 b) : Sl w1 enc p l := by
  rcases h with h | ⟨b', off, hp, hb, hc⟩
  · exact .inl h
  · exact .inr ⟨b', off, hp, Nat.lt_of_lt_of_le hb ht.grown.size, fun i hi => cell_turn ht (hc i hi)⟩
/-- Block b is a map of words to lists of numbers that answers as rd does. -/
def MapRd (b : Nat) (rd : ByteArray → Option (List Int)) (w : World) : Prop :=
  ∃ f : ByteArray → Option Value, Mp Value.string okS (fun v => v) w b f ∧ ∀ s, (rd s = none ∧ f s = none) ∨ ∃ l p c, rd s = some l ∧ f s = some (.slice p l.length c) ∧ Sl w (Value.int .i64) p l
theorem MapRd.made (w : World) : MapRd w.heap.size (fun _ => none) (w.alloc (.map #[] 0)) := ⟨_, Mp.made w, fun _ => .inl ⟨rfl, rfl⟩⟩
theorem MapRd.congr {b : Nat} {rd rd' : ByteArray → Option (List Int)} {w : World} (h : MapRd b rd w) (e : ∀ s, rd s = rd' s) : MapRd b rd' w := by
  have : rd = rd' := funext e
  exact this ▸ h
theorem MapRd.below {b : Nat} {rd : ByteArray → Option (List Int)} {w w' : World} (h : MapRd b rd w) (hB : Below w.heap.size w w') : MapRd b rd w' := by
  obtain ⟨f, hM, hf⟩ := h
  refine ⟨f, hM.below hB hM.lt, fun s => ?_⟩
  rcases hf s with h | ⟨l, p, c, h1, h2, h3⟩
  · exact .inl h
  · exact .inr ⟨l, p, c, h1, h2, h3.below hB⟩
theorem MapRd.put {b : Nat} {rd : ByteArray → Option (List Int)} {w w1 : World} {f : ByteArray → Option Value} (hf : ∀ s, (rd s = none ∧ f s = none) ∨ ∃ l p c, rd s = some l ∧ f s = some (.slice p l.length c) ∧ Sl w (Value.int .i64) p l)
    (k : ByteArray) {l : List Int} {p : Option Addr} {c : Nat} (hM : Mp Value.string okS (fun v => v) w1 b (mset f k (.slice p l.length c))) (ht : w.mapTurned w1 b) (hs : Sl w (Value.int .i64) p l) :
    MapRd b (fun s => if s = k then some l else rd s) w1 := by
  refine ⟨_, hM, fun s => ?_⟩
  by_cases e : s = k
  · exact .inr ⟨l, p, c, by simp [e], by simp [mset, e], hs.turn ht⟩
  · rcases hf s with h | ⟨l', p', c', h1, h2, h3⟩
    · exact .inl ⟨by simp [e, h.1], by simp [mset, e, h.2]⟩
    · exact .inr ⟨l', p', c', by simp [e, h1], by simp [mset, e, h2], h3.turn ht⟩
def rdB (T : Tb) (k : Nat) (s : ByteArray) : Option (List Int) := (baseF T.base s k).map (fun k => [k])
theorem rdB_succ (T : Tb) (k : Nat) (s : ByteArray) : (if s = bget T.base k then some [(k : Int)] else rdB T k s) = rdB T (k + 1) s := by
  unfold rdB; rw [baseF]; split <;> rfl
def rdS (T : Tb) (k : Nat) (s : ByteArray) : Option (List Int) := swF T.swaps s (bOf T s) k
theorem rdS_succ (T : Tb) (k : Nat) (s : ByteArray) : (if s = (sget T.swaps k).wd then some [(sget T.swaps k).i, (sget T.swaps k).j] else rdS T k s) = rdS T (k + 1) s := by
  unfold rdS; rw [swF]

theorem mod_nat {a : Nat} {n : Int} (hn : 1 ≤ n) (h : (a : Int) % n = 0) : a % n.toNat = 0 := by
  obtain ⟨m, rfl⟩ : ∃ m : Nat, n = m := ⟨n.toNat, by omega⟩
  rw [Int.toNat_natCast]; omega
theorem mod_nat_ne {a : Nat} {n : Int} (hn : 1 ≤ n) (h : (a : Int) % n ≠ 0) : a % n.toNat ≠ 0 := by
  obtain ⟨m, rfl⟩ : ∃ m : Nat, n = m := ⟨n.toNat, by omega⟩
  rw [Int.toNat_natCast]; omega
theorem news_sl {w : World} {b off : Nat} {l : List Int} (h : ∀ i (hi : i < l.length), w.cell? ⟨b, off + i, none⟩ = some (.int .i64 l[i])) : ∀ (j : Nat) (u : Value), (l.map (Value.int .i64))[j]? = some u → w.cell? ((⟨b, off, none⟩ : Addr).add j) = some u := by
  intro j u hu
  rw [List.getElem?_map, Option.map_eq_some_iff] at hu
  obtain ⟨x, hx, rfl⟩ := hu
  obtain ⟨hj, rfl⟩ := List.getElem?_eq_some_iff.1 hx
  rw [show ((⟨b, off, none⟩ : Addr).add j) = ⟨b, off + j, none⟩ from by unfold Addr.add; split <;> simp_all]; exact h j hj
theorem MapRd.look_hit {b : Nat} {rd : ByteArray → Option (List Int)} {w : World} (h : MapRd b rd w) (s : ByteArray) (hs : okS s) {l : List Int} (hl : rd s = some l) :
    ∃ p c, (Instr.lookup 73 (.map (some b)) (.string s) true).run Tryz.prog w = .ok (.tuple #[.slice p l.length c, .bool true]) w ∧ Sl w (Value.int .i64) p l := by
  obtain ⟨f, hM, hf⟩ := h
  rcases hf s with h | ⟨l', p, c, h1, h2, h3⟩
  · rw [h.1] at hl; cases hl
  · rw [h1] at hl; cases hl
    refine ⟨p, c, ?_, h3⟩
    have := Mp.look hM keyS Tryz.underlying73 (zeroSlI w) s hs true
    rw [h2] at this; exact this
theorem MapRd.look_miss {b : Nat} {rd : ByteArray → Option (List Int)} {w : World} (h : MapRd b rd w) (s : ByteArray) (hs : okS s) (hl : rd s = none) :
    (Instr.lookup 73 (.map (some b)) (.string s) true).run Tryz.prog w = .ok (.tuple #[.slice none 0 0, .bool false]) w := by
  obtain ⟨f, hM, hf⟩ := h
  rcases hf s with h | ⟨l', p, c, h1, h2, h3⟩
  · have := Mp.look hM keyS Tryz.underlying73 (zeroSlI w) s hs true
    rw [h.2] at this; exact this
  · rw [h1] at hl; cases hl
/-- A slice of numbers, and an error number, in memory of the call's own. -/
def RetSlI (r : List Int) (k : Int) (w : World) (e : Ending) (w' : World) : Prop :=
  ∃ q d, e = .returned (.tuple #[.slice q r.length d, .int .i64 k]) ∧ Sl w' (Value.int .i64) q r ∧ Below w.heap.size w w'
theorem RetSlI.mk {x : List Int × Int} {r' : List Int} {k' : Int} {w w' : World} {q : Option Addr} {d : Nat} (hr : x = (r', k')) (hs : Sl w' (Value.int .i64) q r') (hB : Below w.heap.size w w') :
    RetSlI x.1 x.2 w (.returned (.tuple #[.slice q r'.length d, .int .i64 k'])) w' := by
  subst hr; exact ⟨q, d, rfl, hs, hB⟩
theorem RetSlI.nil {x : List Int × Int} {k' : Int} {w w' : World} {q : Option Addr} {d : Nat} (hr : x = ([], k')) (hB : Below w.heap.size w w') :
    RetSlI x.1 x.2 w (.returned (.tuple #[.slice q 0 d, .int .i64 k'])) w' := by
  subst hr; exact ⟨q, d, rfl, Sl.nil _ _ _, hB⟩
theorem cur_one {a : Nat} {n : Int} (hn : 1 ≤ n) (h : (a : Int) % n = 0) (h0 : a ≠ 0) (h2 : ¬ 2 * n ≤ (a : Int)) : a = n.toNat := by
  have hd := Int.mul_ediv_add_emod (a : Int) n
  rw [h] at hd
  have h1 : 0 ≤ (a : Int) / n := Int.ediv_nonneg (by omega) (by omega)
  by_cases q : (a : Int) / n = 1
  · rw [q] at hd; omega
  · by_cases q0 : (a : Int) / n = 0
    · rw [q0] at hd; omega
    · have : n * 2 ≤ n * ((a : Int) / n) := Int.mul_le_mul_of_nonneg_left (by omega) (by omega)
      omega
def strLen : Value → Nat | .string s => s.size | _ => 0
set_option maxRecDepth 100000 in
set_option maxHeartbeats 4000000 in
theorem lkDecode_ok (T : Tb) (p1 p2 : Option Addr) (c1 c2 : Nat) (s : ByteArray) (w : World) (hin : TbIn w T p1 p2 c1 c2) (hs : s.size ≤ maxLen) (hf : fmd T = true) (hck : wchk T.q s.data.toList = 0) :
    Calls Tryz.prog 16 #[.agg #[.int .i64 T.q, .int .i64 T.n, .slice p1 T.base.length c1, .slice p2 T.swaps.length c2], .string s] w (RetSlI (decA T s).1 (decA T s).2 w) := by
  have hB0 : Below w.heap.size w (w.alloc (.cells #[.int .i64 T.q, .int .i64 T.n, .slice p1 T.base.length c1, .slice p2 T.swaps.length c2] 25)) := (Below.refl _ _).alloc (Nat.le_refl _) _
  have b0 : VRow (w.alloc (.cells #[.int .i64 T.q, .int .i64 T.n, .slice p1 T.base.length c1, .slice p2 T.swaps.length c2] 25)) w.heap.size 25 [.int .i64 T.q, .int .i64 T.n, .slice p1 T.base.length c1, .slice p2 T.swaps.length c2] := VRow.new w _ _
  obtain ⟨i0, hi0, hz0, hz1, hz3⟩ := info_parts infoI
  have HF := hidI hf
  have HC := hidI hck
  have hsz := wchk_long' T.q s hck
  obtain ⟨n1, n2⟩ := fmd_bd hf
  have HIN := hidI hin
  have hl1 := hin.l1
  have hl2 := hin.l2
  clear hf hck
  have hmm := @run_makeMap Tryz.prog
  go_enter Tryz.func16, Tryz.ntmps16
  go_wp2_with fail
  refine (lkFormed_any T p1 p2 c1 c2 _ (hin.below hB0)).mono ?_
  rintro e w1 ⟨rfl, hB1⟩
  rw [HF.out]
  have hBa := hB0.trans (hB1.mono hB0.size)
  have hb1 := b0.below hB1 (by simp)
  clear hB1 b0 hB0
  have f0 := hb1.at 0 rfl
  go_wp2_with fail
  refine (wcheck_any T.q s _ hs).mono ?_
  rintro e w2 ⟨rfl, hD⟩
  rw [HC.out]
  have hBb := hBa.trans (hD.below _)
  have hb2 := hb1.dr hD
  clear f0 hb1
  have f1 := hb2.at 1 rfl; have f2 := hb2.at 2 rfl; have f3 := hb2.at 3 rfl
  have hz2 := hb2.lt
  by_cases hmod : (s.size : Int) % T.n = 0
  · have hmodb : ((s.size : Int) % T.n == 0) = true := by simpa using hmod
    have hmodc : ((s.size : Int) % T.n != 0) = false := by simpa using hmod
    have HMOD := hidI hmod
    have HSM : Hid (s.size % T.n.toNat = 0) := mod_nat n1 hmod
    clear hmod
    go_wp2
    clear hmodb hmodc
    clear f1 f2 f3
    have hbM := (hb2.alloc (.map #[] 0))
    have hBM := hBb.alloc hBb.size (.map #[] 0)
    go_loopw [36] (fun iv wr => ∃ k : Nat, k ≤ T.base.length ∧ iv = .int .i64 k ∧ MapRd w2.heap.size (rdB T k) wr ∧ VRow wr w.heap.size 25 [.int .i64 T.q, .int .i64 T.n, .slice p1 T.base.length c1, .slice p2 T.swaps.length c2] ∧ Below w.heap.size w wr) (fun iv _ => T.base.length - (intOf iv).toNat)
    case atStart => exact ⟨0, by omega, rfl, MapRd.made w2, hbM, hBM⟩
    case round =>
      clear hbM hBM
      obtain ⟨k, hk, rfl, ⟨f, hM, hfr⟩, hb, hB⟩ := hrel
      by_cases hlt : k < T.base.length
      · obtain ⟨b3, o3, rfl, _, hc3⟩ := (HIN.out.base.below hB).get k hlt
        have e0 := hc3 k hlt
        have HG := hidI (bget_eq T.base k hlt)
        have hok : okS T.base[k] := HIN.out.z1 k hlt
        have HFR := hidI hfr
        clear hc3 hfr hin
        go_wp2_with (at_mapUpdate; refine wpList_update_mp rfl _ _ _ 73 rfl 43 keyS Tryz.underlying73 w2.heap.size f rfl (hM.alloc _) T.base[k] rfl hok (.slice (some ⟨wr.heap.size, 0, none⟩) 1 1) rfl ?_; intro w3 hM1 hturn)
        have hMR := MapRd.put (w := wr.alloc (.cells #[.int .i64 k] 3)) (l := [(k : Int)]) (f := f) (rd := rdB T k) (fun s => (HFR.out s).imp id (fun ⟨l, p, c, h1, h2, h3⟩ => ⟨l, p, c, h1, h2, h3.below ((Below.refl _ _).alloc (Nat.le_refl _) _)⟩)) T.base[k] hM1 hturn (Sl.of_vrow (VRow.new wr 3 [.int .i64 k]))
        go_roundw
        case rel => exact ⟨k + 1, by omega, by go_num, hMR.congr (fun s => by rw [← HG.out]; exact rdB_succ T k s), (hb.alloc _).grown hturn.grown (fun e => by have := Option.some.inj e; omega), (hB.alloc hB.size _).grown hturn.grown (Nat.le_trans hB.size (by simp)) (fun j e => by have := Option.some.inj e; omega)⟩
        case measure => simp [intOf]; omega
      · obtain rfl : k = T.base.length := by omega
        have hMR0 : MapRd w2.heap.size (rdS T 0) wr := ⟨f, hM, hfr⟩
        clear hfr hM
        have f3 := hb.at 3 rfl
        go_wp2
        clear hlt hk f3
        go_loopw [49] (fun iv wr => ∃ k : Nat, k ≤ T.swaps.length ∧ iv = .int .i64 k ∧ MapRd w2.heap.size (rdS T k) wr ∧ VRow wr w.heap.size 25 [.int .i64 T.q, .int .i64 T.n, .slice p1 T.base.length c1, .slice p2 T.swaps.length c2] ∧ Below w.heap.size w wr) (fun iv _ => T.swaps.length - (intOf iv).toNat)
        case atStart => exact ⟨0, by omega, rfl, hMR0, hb, hB⟩
        case round =>
          clear hMR0 hb hB
          obtain ⟨k, hk, rfl, ⟨f, hM, hfr⟩, hb, hB⟩ := hrel
          by_cases hlt : k < T.swaps.length
          · obtain ⟨b3, o3, rfl, hb3, e0, e1, e2⟩ := (HIN.out.swaps.below hB).get3 k hlt rfl
            have HG := hidI (sget_eq T.swaps k hlt)
            have hok : okS T.swaps[k].wd := HIN.out.z2 k hlt
            have HFR := hidI hfr
            clear hfr
            go_wp2_with (at_mapUpdate; refine wpList_update_mp rfl _ _ _ 73 rfl 43 keyS Tryz.underlying73 w2.heap.size f rfl ((hM.alloc _).alloc _) T.swaps[k].wd rfl hok (.slice (some ⟨wr.heap.size + 1, 0, none⟩) 2 2) rfl ?_; intro w3 hM1 hturn)
            have hv2 := (VRow.new1 wr (.cells #[.int .i64 T.swaps[k].i, .int .i64 T.swaps[k].j, .string T.swaps[k].wd] 62) 3 [.int .i64 T.swaps[k].i, .int .i64 T.swaps[k].j])
            have hBn : Below wr.heap.size wr ((wr.alloc (.cells #[.int .i64 T.swaps[k].i, .int .i64 T.swaps[k].j, .string T.swaps[k].wd] 62)).alloc (.cells #[.int .i64 T.swaps[k].i, .int .i64 T.swaps[k].j] 3)) := ((Below.refl _ _).alloc (Nat.le_refl _) _).alloc (by simp) _
            have hMR := MapRd.put (w := (wr.alloc (.cells #[.int .i64 T.swaps[k].i, .int .i64 T.swaps[k].j, .string T.swaps[k].wd] 62)).alloc (.cells #[.int .i64 T.swaps[k].i, .int .i64 T.swaps[k].j] 3)) (l := [T.swaps[k].i, T.swaps[k].j]) (f := f) (rd := rdS T k)
              (fun s => (HFR.out s).imp id (fun ⟨l, p, c, h1, h2, h3⟩ => ⟨l, p, c, h1, h2, h3.below hBn⟩)) T.swaps[k].wd hM1 hturn (Sl.of_vrow hv2)
            go_roundw
            case rel => exact ⟨k + 1, by omega, by go_num, hMR.congr (fun s => by rw [← HG.out]; exact rdS_succ T k s), ((hb.alloc _).alloc _).grown hturn.grown (fun e => by have := Option.some.inj e; omega), ((hB.alloc hB.size _).alloc (Nat.le_trans hB.size (by simp)) _).grown hturn.grown (Nat.le_trans hB.size (by simp; omega)) (fun j e => by have := Option.some.inj e; omega)⟩
            case measure => simp [intOf]; omega
          · obtain rfl : k = T.swaps.length := by omega
            have hMR : MapRd w2.heap.size (rdF T) wr := ⟨f, hM, hfr⟩
            have f3 := hb.at 3 rfl
            clear hfr hM
            go_wp2
            clear hlt hk f3
            have hzb : w2.heap.size < wr.heap.size := by obtain ⟨f, hM, _⟩ := hMR; exact hM.lt
            have HMR := hidI hMR
            have HBX := hidI hb
            have HB := hidI hB
            clear hMR hb hB
            obtain ⟨wl, rfl⟩ : ∃ wl : World, wl = wr := ⟨_, rfl⟩
            go_loopw [1, 12] (fun cv ov wr => ∃ (cur : ByteArray) (out : List Int), cv = .string cur ∧ Hid ((decF T cur).map (out ++ ·) = decF T s) ∧ (cur.size : Int) % T.n = 0 ∧ out.length + 2 * cur.size ≤ 2 * s.size ∧ cur.size ≤ 65536 ∧
                wr.ownsRow wl.heap.size 3 1 ov out.length (out.map (Value.int .i64)) ∧ Below wl.heap.size wl wr) (fun cv _ _ => strLen cv)
            case atStart => exact ⟨s, [], rfl, by unfold Hid; simp, HMOD.out, by simp, hsz, World.ownsRow_nil _ _ _ _, Below.refl _ _⟩
            case round =>
              obtain ⟨cur, out, rfl, hd, hcm, hol, hcz, hown, hB⟩ := hrel
              have hMR := HMR.out.below hB
              have hbx := HBX.out.below hB HBX.out.lt
              have f1 := hbx.at 1 rfl
              by_cases h0 : cur.size = 0
              · obtain ⟨d0⟩ := cur
                have : d0 = #[] := Array.eq_empty_of_size_eq_zero h0
                subst this
                have HR : Hid (decA T s = (out, 0)) := decA_ok HF.out HC.out HSM.out (by rw [← hd.out, decF_nil T h0]; simp)
                obtain ⟨q, d, rfl, hsl⟩ := own_sl hown
                go_wp2
                go_ret2
                exact RetSlI.mk HR.out hsl (HB.out.trans (hB.mono HB.out.size))
              · have hne : cur.toList.isEmpty = false := ne_empty (by omega)
                have hn0 : 0 < T.n.toNat := by omega
                have okx : ∀ k : Nat, okS (cur.extract 0 k) := fun k => by unfold okS maxLen; rw [ByteArray.size_extract]; omega
                by_cases h2 : 2 * T.n ≤ (cur.size : Int)
                · have hmin : min (2 * T.n) (cur.size : Int) = 2 * T.n := by omega
                  have ht2 : (2 * T.n).toNat = 2 * T.n.toNat := by omega
                  cases hr1 : rdF T (cur.extract 0 (2 * T.n.toNat)) with
                  | some l1 =>
                    have hl1 := rdF_len hr1
                    obtain ⟨p, c, hlk, hsl⟩ := MapRd.look_hit hMR _ (okx _) hr1
                    rw [← ht2] at hlk
                    have HT2 := hidI ht2
                    clear ht2 hMR
                    obtain ⟨b4, o4, rfl, _, hc4⟩ := hsl.get 0 hl1.1
                    have hnew : ∀ (j : Nat) (u : Value), (l1.map (Value.int .i64))[j]? = some u → wr.cell? ((⟨b4, o4, none⟩ : Addr).add j) = some u := news_sl hc4
                    have HDS := hidI (decF_on hd.out (by rw [HT2.out]; exact decF_step hn0 h0 (by omega) (step_swap (by omega) hr1) : decF T cur = (decF T (cur.extract (2 * T.n).toNat cur.size)).map (l1 ++ ·)))
                    have HSZ := hidI (ext_size cur (2 * T.n).toNat)
                    have hcm2 : ((cur.size : Int) - (2 * T.n)) % T.n = 0 := mod_sub hcm (by simp)
                    have HCM := hidI hcm2
                    clear hc4 hcm2
                    go_wp2_with (at_builtin; refine wpList_append_own _ rfl _ _ 43 rfl wl.heap.size 3 i0 (.int .i64 0) 1 8 Tryz.underlying43 hi0 hz0 hz1 hz3 rfl (by decide) _ _ _ rfl hown ⟨b4, o4, none⟩ l1.length c (l1.map (Value.int .i64)) rfl (by simp) hnew (by simp [Value.oneCell']) (by simp [maxLen]; omega) (by omega) hB.size ?_; intro v' w5 hown' hgrow _)
                    go_roundw
                    case rel =>
                      refine ⟨cur.extract (2 * T.n).toNat cur.size, out ++ l1, rfl, HDS, ?_, ?_, ?_, by rw [List.length_append, List.map_append]; exact hown', hB.grown hgrow hB.size (fun j e => (hown.lt j e).1)⟩
                      · rw [HSZ.out, Int.natCast_sub (by omega), show (((2 * T.n).toNat : Nat) : Int) = 2 * T.n by omega]; exact HCM.out
                      · rw [List.length_append, HSZ.out]; omega
                      · rw [HSZ.out]; omega
                    case measure => simp [strLen]; omega
                  | none =>
                    have hlk := MapRd.look_miss hMR _ (okx _) hr1
                    rw [← ht2] at hlk
                    have HT2 := hidI ht2
                    clear ht2
                    cases hr2 : rdF T (cur.extract 0 T.n.toNat) with
                    | some l1 =>
                      have hl1 := rdF_len hr2
                      obtain ⟨p, c, hlk2, hsl⟩ := MapRd.look_hit hMR _ (okx _) hr2
                      clear hMR
                      obtain ⟨b4, o4, rfl, _, hc4⟩ := hsl.get 0 hl1.1
                      have hnew : ∀ (j : Nat) (u : Value), (l1.map (Value.int .i64))[j]? = some u → wr.cell? ((⟨b4, o4, none⟩ : Addr).add j) = some u := news_sl hc4
                      have HDS := hidI (decF_on hd.out (decF_step hn0 h0 hn0 ((step_base (fun _ => hr1)).trans (by rw [hr2]; rfl))))
                      have HSZ := hidI (ext_size cur (T.n).toNat)
                      have hcm2 : ((cur.size : Int) - (T.n)) % T.n = 0 := mod_sub hcm (by simp)
                      have HCM := hidI hcm2
                      clear hc4 hcm2
                      go_wp2_with (at_builtin; refine wpList_append_own _ rfl _ _ 43 rfl wl.heap.size 3 i0 (.int .i64 0) 1 8 Tryz.underlying43 hi0 hz0 hz1 hz3 rfl (by decide) _ _ _ rfl hown ⟨b4, o4, none⟩ l1.length c (l1.map (Value.int .i64)) rfl (by simp) hnew (by simp [Value.oneCell']) (by simp [maxLen]; omega) (by omega) hB.size ?_; intro v' w5 hown' hgrow _)
                      go_roundw
                      case rel =>
                        refine ⟨cur.extract (T.n).toNat cur.size, out ++ l1, rfl, HDS, ?_, ?_, ?_, by rw [List.length_append, List.map_append]; exact hown', hB.grown hgrow hB.size (fun j e => (hown.lt j e).1)⟩
                        · rw [HSZ.out, Int.natCast_sub (by omega), show (((T.n).toNat : Nat) : Int) = T.n by omega]; exact HCM.out
                        · rw [List.length_append, HSZ.out]; omega
                        · rw [HSZ.out]; omega
                      case measure => simp [strLen]; omega
                    | none =>
                      have hlk2 := MapRd.look_miss hMR _ (okx _) hr2
                      clear hMR
                      have HR := hidI (decA_word HF.out HC.out HSM.out (by rw [← hd.out, decF_fail h0 ((step_base (fun _ => hr1)).trans (by rw [hr2]; rfl))]; rfl))
                      go_wp2
                      go_ret2
                      exact RetSlI.nil HR.out (HB.out.trans (hB.mono HB.out.size))
                · have hmin : min (2 * T.n) (cur.size : Int) = (cur.size : Int) := by omega
                  have hcn : cur.size = T.n.toNat := cur_one n1 hcm h0 h2
                  have hcu : cur.extract 0 T.n.toNat = cur := by rw [← hcn]; simp
                  have HCN := hidI hcn
                  have hle : T.n ≤ (cur.size : Int) := by omega
                  have HCU := hidI hcu
                  have okc : okS cur := by unfold okS maxLen; omega
                  cases hr1 : rdF T cur with
                  | some l1 =>
                    have hl1 := rdF_len hr1
                    obtain ⟨p, c, hlk, hsl⟩ := MapRd.look_hit hMR _ okc hr1
                    clear hMR hcn hcu
                    obtain ⟨b4, o4, rfl, _, hc4⟩ := hsl.get 0 hl1.1
                    have hnew : ∀ (j : Nat) (u : Value), (l1.map (Value.int .i64))[j]? = some u → wr.cell? ((⟨b4, o4, none⟩ : Addr).add j) = some u := news_sl hc4
                    have HDS := hidI (decF_on hd.out (decF_step hn0 h0 hn0 ((step_base (fun h => absurd h (by omega))).trans (by rw [HCU.out, hr1]; rfl))))
                    rw [← HCN.out] at HDS
                    have hxe : cur.extract cur.size cur.size = ByteArray.empty := by simp
                    rw [hxe] at HDS
                    clear hxe
                    clear hc4
                    go_wp2_with (at_builtin; refine wpList_append_own _ rfl _ _ 43 rfl wl.heap.size 3 i0 (.int .i64 0) 1 8 Tryz.underlying43 hi0 hz0 hz1 hz3 rfl (by decide) _ _ _ rfl hown ⟨b4, o4, none⟩ l1.length c (l1.map (Value.int .i64)) rfl (by simp) hnew (by simp [Value.oneCell']) (by simp [maxLen]; omega) (by omega) hB.size ?_; intro v' w5 hown' hgrow _)
                    go_roundw
                    case rel =>
                      refine ⟨ByteArray.empty, out ++ l1, rfl, HDS, ?_, ?_, ?_, by rw [List.length_append, List.map_append]; exact hown', hB.grown hgrow hB.size (fun j e => (hown.lt j e).1)⟩
                      · simp
                      · rw [List.length_append, ByteArray.size_empty]; omega
                      · rw [ByteArray.size_empty]; omega
                    case measure => simp [strLen]; omega
                  | none =>
                    have hlk := MapRd.look_miss hMR _ okc hr1
                    have hlk2 := hlk
                    rw [← hcu] at hlk2
                    clear hMR hcn hcu
                    have HR := hidI (decA_word HF.out HC.out HSM.out (by rw [← hd.out, decF_fail h0 ((step_base (fun h => absurd h (by omega))).trans (by rw [HCU.out, hr1]; rfl))]; rfl))
                    go_wp2
                    go_ret2
                    exact RetSlI.nil HR.out (HB.out.trans (hB.mono HB.out.size))
  · have HR := hidI (decA_mod HF.out HC.out (mod_nat_ne n1 hmod))
    have hmodb : ((s.size : Int) % T.n == 0) = false := by simpa using hmod
    have hmodc : ((s.size : Int) % T.n != 0) = true := by simpa using hmod
    go_wp2
    go_ret2
    exact RetSlI.nil HR.out hBb
end Go.Proofs.YtjponanfpdmeoaaGreatDoor
namespace Go.Proofs.YtjponanfpdmeoaaGreatDoor
open Go.RowKit

theorem own_grow (w : World) (B cap : Nat) (e : TypeId) (cur : Array Value) (hB : B ≤ w.heap.size) (hm : cap ≤ maxLen) (hc : cur.size = cap) :
    (w.alloc (.cells cur e)).ownsRow B e 1 (.slice (some ⟨w.heap.size, 0, none⟩) 0 cap) 0 [] :=
  ⟨by simp, .inr ⟨w.heap.size, _, _, rfl, hB, heap_alloc_new w _, Nat.zero_le _, hm, by simp [hc], by simp⟩⟩
def RetOwn0 (w : World) (e : Ending) (w' : World) : Prop := ∃ v, e = .returned v ∧ w'.ownsRow w.heap.size 3 1 v 0 [] ∧ Below w.heap.size w w'
/-- Two lists, one after the other. -/
def cat2 (a b : List Int) (k : Nat) : List Int := if k = 0 then [] else if k = 1 then a else a ++ b
theorem one_ints (l : List Int) : ∀ u ∈ l.map (Value.int .i64), u.oneCell' = true := by
  intro u hu; obtain ⟨x, _, rfl⟩ := List.mem_map.1 hu; rfl
/-- Appending a list that lies in memory, nil or not. -/
theorem run_append_sl {P : Program} (w : World) (base : Nat) (t ty e : TypeId) (i : TypeInfo) (bytes : Nat) (ht : P.underlying t = some (.slice e)) (hi : P.info? e = some i) (hz : i.zero = some (.int .i64 0)) (hs : i.size = 1) (hby : i.bytes = bytes)
    (v : Value) (xs : List Int) (hown : w.ownsRow base e 1 v xs.length (xs.map (Value.int .i64))) (p : Option Addr) (c : Nat) (l : List Int) (hl : Sl w (Value.int .i64) p l) (h63 : xs.length + l.length ≤ maxLen) (hb : (xs.length + l.length) * bytes ≤ 140737488355328) (hbase : base ≤ w.heap.size) :
    ∃ v' w', (Builtin.append_ #[t, t] ty #[v, .slice p l.length c]).run P w = .ok v' w' ∧ w'.ownsRow base e 1 v' (xs ++ l).length ((xs ++ l).map (Value.int .i64)) ∧ w.grownBy w' v.ownBlock := by
  cases p with
  | none =>
    rcases hl with h0 | ⟨_, _, hp, _⟩
    · subst h0
      refine ⟨v, w, ?_, by simpa using hown, World.grownBy.refl w _⟩
      rcases hown.2 with ⟨rfl, h0⟩ | ⟨g, cap, cur, rfl, _, _, hnc, _⟩
      · simp [Builtin.append_, run_underlying ht, sizeOf, typeInfo, hi, Builtin.lenOf, Builtin.firstCells]
      · simp [Builtin.append_, run_underlying ht, sizeOf, typeInfo, hi, Builtin.lenOf, Builtin.firstCells, hnc, storeCells]
    · cases hp
  | some ad =>
    have hn : ∀ j u, (l.map (Value.int .i64))[j]? = some u → w.cell? (ad.add j) = some u := by
      rcases hl with h0 | ⟨b, off, hp, _, hc⟩
      · subst h0; simp
      · cases hp; exact news_sl hc
    obtain ⟨v', w', h1, h2, h3, _, _⟩ := run_append_own_at w base t ty e i (.int .i64 0) 1 bytes ht hi hz hs hby rfl (by decide) v xs.length _ hown ad l.length c (l.map (Value.int .i64)) (by simp) hn (one_ints l) h63 hb hbase
    exact ⟨v', w', h1, by rw [List.length_append, List.map_append]; exact h2, h3⟩

end Go.Proofs.YtjponanfpdmeoaaGreatDoor
namespace Go.Proofs.YtjponanfpdmeoaaGreatDoor
open Go.RowKit

set_option maxRecDepth 100000 in
set_option maxHeartbeats 1000000 in
theorem lkDecode_any (T : Tb) (p1 p2 : Option Addr) (c1 c2 : Nat) (s : ByteArray) (w : World) (hin : TbIn w T p1 p2 c1 c2) (hs : s.size ≤ maxLen) :
    Calls Tryz.prog 16 #[.agg #[.int .i64 T.q, .int .i64 T.n, .slice p1 T.base.length c1, .slice p2 T.swaps.length c2], .string s] w (RetSlI (decA T s).1 (decA T s).2 w) := by
  have hB0 : Below w.heap.size w (w.alloc (.cells #[.int .i64 T.q, .int .i64 T.n, .slice p1 T.base.length c1, .slice p2 T.swaps.length c2] 25)) := (Below.refl _ _).alloc (Nat.le_refl _) _
  have b0 : VRow (w.alloc (.cells #[.int .i64 T.q, .int .i64 T.n, .slice p1 T.base.length c1, .slice p2 T.swaps.length c2] 25)) w.heap.size 25 [.int .i64 T.q, .int .i64 T.n, .slice p1 T.base.length c1, .slice p2 T.swaps.length c2] := VRow.new w _ _
  cases hf : fmd T
  · have HF := hidI hf
    have HR := hidI (decA_bad s hf)
    clear hf
    go_enter Tryz.func16, Tryz.ntmps16
    go_wp2_with fail
    refine (lkFormed_any T p1 p2 c1 c2 _ (hin.below hB0)).mono ?_
    rintro e w1 ⟨rfl, hB1⟩
    rw [HF.out]
    go_wp2
    go_ret2
    exact RetSlI.nil HR.out (hB0.trans (hB1.mono hB0.size))
  by_cases hck : wchk T.q s.data.toList = 0
  · exact lkDecode_ok T p1 p2 c1 c2 s w hin hs hf hck
  · have HF := hidI hf
    have HR := hidI (decA_chk hf hck)
    have hck' : (wchk T.q s.data.toList == 0) = false := by simpa using hck
    clear hf hck
    go_enter Tryz.func16, Tryz.ntmps16
    go_wp2_with fail
    refine (lkFormed_any T p1 p2 c1 c2 _ (hin.below hB0)).mono ?_
    rintro e w1 ⟨rfl, hB1⟩
    rw [HF.out]
    have hBa := hB0.trans (hB1.mono hB0.size)
    have f0 := (b0.below hB1 (by simp)).at 0 rfl
    go_wp2_with fail
    refine (wcheck_any T.q s _ hs).mono ?_
    rintro e w2 ⟨rfl, hD⟩
    go_wp2
    go_ret2
    exact RetSlI.nil HR.out (hBa.trans (hD.below _))

set_option maxHeartbeats 400000 in
theorem r12Same_any (l m : List Int) (p q : Option Addr) (c d : Nat) (w : World) (hp : Sl w (Value.int .i64) p l) (hq : Sl w (Value.int .i64) q m) (hl : l.length ≤ 9223372036854775807) (hm : m.length ≤ 9223372036854775807) :
    Calls Tryz.prog 30 #[.slice p l.length c, .slice q m.length d] w fun e w' => e = .returned (.bool (decide (l = m))) ∧ Dr w w' := by
  by_cases hlen : l.length = m.length
  · have hlen' : ((l.length : Int) == (m.length : Int)) = true := by simp [hlen]
    have HT : Hid (l.length = m.length) := hlen
    clear hlen
    go_enter Tryz.func30, Tryz.ntmps30
    go_wp2
    go_loopw [5] (fun i wr => ∃ k : Nat, k ≤ l.length ∧ i = .int .i64 k ∧ Hid (l.take k = m.take k) ∧ Dr w wr) (fun i _ => l.length - (intOf i).toNat)
    case atStart => exact ⟨0, by omega, rfl, by simp [Hid], Dr.refl _⟩
    case round =>
      obtain ⟨k, hk, rfl, hj, hD⟩ := hrel
      by_cases hlt : k < l.length
      · have hlt2 : k < m.length := by have := HT.out; omega
        obtain ⟨b1, o1, rfl, hb1, hc1⟩ := (hp.dr hD).get k hlt
        obtain ⟨b2, o2, rfl, hb2, hc2⟩ := (hq.dr hD).get k hlt2
        have e1 := hc1 k hlt
        have e2 := hc2 k hlt2
        have h2' : (k : Int) < (m.length : Int) := by omega
        clear hc1 hc2
        by_cases he : l[k] = m[k]
        · have heb : (l[k] == m[k]) = true := by simpa using he
          have HE : Hid (l.take (k + 1) = m.take (k + 1)) := by unfold Hid; rw [List.take_succ_eq_append_getElem hlt, List.take_succ_eq_append_getElem hlt2, hj.out, he]
          clear he
          go_wp2_with fail
          (refine wp_region_quiet_lit (by kernel_rfl) (by kernel_rfl) ?_; (repeat (first | go_big_quiet_step (fail) | quiet_step (fail))); refine wpQuiet_nil ?_; intro _ hwq; obtain ⟨nq, hwq2⟩ := hwq; subst hwq2)
          go_wp2
          go_roundw
          case rel => exact ⟨k + 1, by omega, by go_num, HE, hD.one _⟩
          case measure => simp [intOf]; omega
        · have heb : (l[k] == m[k]) = false := by simpa using he
          have HE : Hid (decide (l = m) = false) := decide_eq_false (fun e => by subst e; exact he rfl)
          go_wp2_with fail
          (refine wp_region_quiet_lit (by kernel_rfl) (by kernel_rfl) ?_; (repeat (first | go_big_quiet_step (fail) | quiet_step (fail))); refine wpQuiet_nil ?_; intro _ hwq; obtain ⟨nq, hwq2⟩ := hwq; subst hwq2)
          go_wp2
          go_ret
          exact ⟨ret_bool HE.out.symm, hD.one _⟩
      · obtain rfl : k = l.length := by omega
        have HE : Hid (decide (l = m) = true) := by
          have h1 := hj.out
          rw [List.take_length, HT.out, List.take_length] at h1
          simp [Hid, h1]
        go_wp2
        go_ret
        exact ⟨ret_bool HE.out.symm, hD⟩
  · have hlen' : ((l.length : Int) == (m.length : Int)) = false := by simpa using fun h : (l.length : Int) = m.length => hlen (by omega)
    have HE : Hid (decide (l = m) = false) := by simp [Hid]; rintro rfl; exact hlen rfl
    clear hlen
    go_enter Tryz.func30, Tryz.ntmps30
    go_wp2
    go_ret
    exact ⟨ret_bool HE.out.symm, Dr.refl _⟩
def exT : Tb := ⟨2, 3, [⟨#[49, 48, 49]⟩, ⟨#[49, 48, 48]⟩, ⟨#[48, 48, 49]⟩, ⟨#[48, 49, 48]⟩], [⟨0, 0, ⟨#[49, 48, 49, 48, 48, 48]⟩⟩, ⟨0, 1, ⟨#[49, 48, 48, 48, 48, 48]⟩⟩, ⟨2, 0, ⟨#[48, 48, 49, 48, 48, 48]⟩⟩, ⟨2, 1, ⟨#[48, 49, 48, 48, 48, 48]⟩⟩]⟩
theorem flat_get {α β : Type} {enc : α → List β} {m : Nat} (hm : ∀ x, (enc x).length = m) : ∀ (l : List α) (i : Nat) (hi : i < l.length) (j : Nat), j < m → (l.flatMap enc)[i * m + j]? = (enc l[i])[j]?
  | [], i, hi, _, _ => by simp at hi
  | x :: l, 0, _, j, hj => by
    rw [List.flatMap_cons, Nat.zero_mul, Nat.zero_add, List.getElem?_append_left (by rw [hm]; exact hj)]; rfl
  | x :: l, i + 1, hi, j, hj => by
    rw [List.flatMap_cons, List.getElem?_append_right (by rw [hm, Nat.succ_mul]; omega), hm, show (i + 1) * m + j - m = i * m + j by rw [Nat.succ_mul]; omega]
    exact flat_get hm l i (by simpa using hi) j hj
theorem Sg.of_vrow {α : Type} {w : World} {B t m : Nat} {enc : α → List Value} {l : List α} (hm : ∀ x, (enc x).length = m) (h : VRow w B t (l.flatMap enc)) : Sg m w enc (some ⟨B, 0, none⟩) l :=
  .inr ⟨B, 0, rfl, h.lt, fun i hi j hj => by rw [Nat.zero_add, h.cell, flat_get hm l i hi j hj]⟩
/-- The table of the chapter, in memory of the call's own. -/
def RetTb (w : World) (e : Ending) (w' : World) : Prop := ∃ p1 p2, e = .returned (.agg #[.int .i64 2, .int .i64 3, .slice p1 4 4, .slice p2 4 4]) ∧ TbIn w' exT p1 p2 4 4 ∧ Below w.heap.size w w'
set_option maxHeartbeats 1000000 in
theorem lkTable_any (w : World) : Calls Tryz.prog 13 #[] w (RetTb w) := by
  go_enter Tryz.func13, Tryz.ntmps13
  go_wp2
  refine bodyPost_ret (v := .agg #[.int .i64 2, .int .i64 3, .slice (some ⟨w.heap.size + 1, 0, none⟩) 4 4, .slice (some ⟨w.heap.size + 1 + 1, 0, none⟩) 4 4]) (by simp [results, Tryz.results13, go_sem]) rfl ?_
  have h1 := (VRow.new1 w (.cells #[.int .i64 2, .int .i64 3, .slice (some ⟨w.heap.size + 1, 0, none⟩) 4 4, .slice (some ⟨w.heap.size + 1 + 1, 0, none⟩) 4 4] 25) 9 (exT.base.map Value.string)).alloc (.cells (exT.swaps.flatMap swE).toArray 62)
  have h2 := VRow.new2 w (.cells #[.int .i64 2, .int .i64 3, .slice (some ⟨w.heap.size + 1, 0, none⟩) 4 4, .slice (some ⟨w.heap.size + 1 + 1, 0, none⟩) 4 4] 25) (.cells (exT.base.map Value.string).toArray 9) 62 (exT.swaps.flatMap swE)
  exact ⟨_, _, rfl, ⟨Sl.of_vrow h1, Sg.of_vrow (m := 3) (fun _ => rfl) h2, by decide, by decide, by decide, by decide +kernel, by decide +kernel⟩, (((Below.refl _ _).alloc (Nat.le_refl _) _).alloc (by simp) _).alloc (by simp; omega) _⟩
theorem exT_fmd : fmd exT = true := by decide +kernel
theorem ex1 : encA exT [0, 0, 1] = (⟨#[49, 48, 49, 48, 48, 48, 49, 48, 48]⟩, 0) := by decide +kernel
theorem ex2 : encA exT [0, 1, 0] = (⟨#[49, 48, 48, 48, 48, 48, 49, 48, 49]⟩, 0) := by decide +kernel
theorem ex3 : encA exT [1, 0, 3] = (⟨#[49, 48, 48, 49, 48, 49, 48, 49, 48]⟩, 0) := by decide +kernel
theorem ex4 : decA exT ⟨#[49, 48, 49, 48, 49, 48]⟩ = ([0, 3], 0) := by decide +kernel
theorem ne_of_get {α : Type} {l m : List α} (k : Nat) (h1 : k < l.length) (h2 : k < m.length) (h : l[k] ≠ m[k]) : l ≠ m := by
  intro e; subst e; exact h rfl

set_option maxHeartbeats 400000 in
theorem equalI_any (l m : List Int) (p q : Option Addr) (c d : Nat) (w : World) (hp : Sl w (Value.int .i64) p l) (hq : Sl w (Value.int .i64) q m) (hl : l.length ≤ 9223372036854775807) (hm : m.length ≤ 9223372036854775807) :
    Calls Tryz.prog 17 #[.slice p l.length c, .slice q m.length d] w fun e w' => e = .returned (.bool (decide (l = m))) ∧ Dr w w' := by
  by_cases hlen : l.length = m.length
  · have hlen' : ((l.length : Int) == (m.length : Int)) = true := by simp [hlen]
    have HT : Hid (l.length = m.length) := hlen
    clear hlen
    go_enter Tryz.func17, Tryz.ntmps17
    go_wp2
    go_loopw [13] (fun i wr => ∃ k : Nat, k ≤ l.length ∧ i = .int .i64 k ∧ Hid (l.take k = m.take k) ∧ Dr w wr) (fun i _ => l.length - (intOf i).toNat)
    case atStart => exact ⟨0, by omega, rfl, by simp [Hid], Dr.refl _⟩
    case round =>
      obtain ⟨k, hk, rfl, hj, hD⟩ := hrel
      by_cases hlt : k < l.length
      · have hlt2 : k < m.length := by have := HT.out; omega
        obtain ⟨b1, o1, rfl, hb1, hc1⟩ := (hp.dr hD).get k hlt
        obtain ⟨b2, o2, rfl, hb2, hc2⟩ := (hq.dr hD).get k hlt2
        have e1 := hc1 k hlt
        have e2 := hc2 k hlt2
        clear hc1 hc2
        have h2' : (k : Int) < (m.length : Int) := by omega
        by_cases he : l[k] = m[k]
        · have heb : (l[k] == m[k]) = true := by simpa using he
          have HE : Hid (l.take (k + 1) = m.take (k + 1)) := by unfold Hid; rw [List.take_succ_eq_append_getElem hlt, List.take_succ_eq_append_getElem hlt2, hj.out, he]
          clear he
          go_wp2_with fail
          (refine wp_region_quiet_lit (by kernel_rfl) (by kernel_rfl) ?_; (repeat (first | go_big_quiet_step (fail) | quiet_step (fail))); refine wpQuiet_nil ?_; intro _ hwq; obtain ⟨nq, hwq2⟩ := hwq; subst hwq2)
          go_wp2
          go_roundw
          case rel => exact ⟨k + 1, by omega, by go_num, HE, hD.one _⟩
          case measure => simp [intOf]; omega
        · have heb : (l[k] == m[k]) = false := by simpa using he
          have HE : Hid (decide (l = m) = false) := decide_eq_false (fun e => by subst e; exact he rfl)
          go_wp2_with fail
          (refine wp_region_quiet_lit (by kernel_rfl) (by kernel_rfl) ?_; (repeat (first | go_big_quiet_step (fail) | quiet_step (fail))); refine wpQuiet_nil ?_; intro _ hwq; obtain ⟨nq, hwq2⟩ := hwq; subst hwq2)
          go_wp2
          go_ret
          exact ⟨ret_bool HE.out.symm, hD.one _⟩
      · obtain rfl : k = l.length := by omega
        have HE : Hid (decide (l = m) = true) := by
          have h1 := hj.out
          rw [List.take_length, HT.out, List.take_length] at h1
          simp [Hid, h1]
        go_wp2
        go_ret
        exact ⟨ret_bool HE.out.symm, hD⟩
  · have hlen' : ((l.length : Int) == (m.length : Int)) = false := by simpa using fun h : (l.length : Int) = m.length => hlen (by omega)
    have HE : Hid (decide (l = m) = false) := by simp [Hid]; rintro rfl; exact hlen rfl
    clear hlen
    go_enter Tryz.func17, Tryz.ntmps17
    go_wp2
    go_ret
    exact ⟨ret_bool HE.out.symm, Dr.refl _⟩


theorem encEx (p1 p2 pl : Option Addr) (a b c : Int) (r : ByteArray) (w : World) (hin : TbIn w exT p1 p2 4 4) (hl : Sl w (Value.int .i64) pl [a, b, c]) (h : encA exT [a, b, c] = (r, 0)) :
    Calls Tryz.prog 15 #[.agg #[.int .i64 2, .int .i64 3, .slice p1 4 4, .slice p2 4 4], .slice pl 3 3] w fun e w' => e = .returned (.tuple #[.string r, .int .i64 0]) ∧ Below w.heap.size w w' := by
  have := lkEncode_any exT p1 p2 4 4 [a, b, c] pl 3 w hin hl (by simp) (by simp)
  rw [h] at this
  exact this
theorem decEx (p1 p2 : Option Addr) (s : ByteArray) (l : List Int) (w : World) (hin : TbIn w exT p1 p2 4 4) (hs : s.size ≤ maxLen) (h : decA exT s = (l, 0)) :
    Calls Tryz.prog 16 #[.agg #[.int .i64 2, .int .i64 3, .slice p1 4 4, .slice p2 4 4], .string s] w (RetSlI l 0 w) := by
  have := lkDecode_any exT p1 p2 4 4 s w hin hs
  rw [h] at this
  exact this
theorem eqEx (q1 q2 : Option Addr) (d : Nat) (w : World) (h1 : Sl w (Value.int .i64) q1 [0, 3]) (h2 : Sl w (Value.int .i64) q2 [0, 3]) :
    Calls Tryz.prog 17 #[.slice q1 2 d, .slice q2 2 2] w fun e w' => e = .returned (.bool true) ∧ Dr w w' := by
  have := equalI_any [0, 3] [0, 3] q1 q2 d 2 w h1 h2 (by simp) (by simp)
  rw [show decide (([0, 3] : List Int) = [0, 3]) = true from rfl] at this
  exact this

set_option maxRecDepth 100000 in
set_option maxHeartbeats 600000 in
theorem lkAwake_any (w : World) : Calls Tryz.prog 6 #[] w fun e w' => e = .returned (.bool true) ∧ Below w.heap.size w w' := by
  have hmx : ∀ w : World, (Builtin.max_ #[33, 33, 33, 33] 33 #[.int .i64 0, .int .i64 0, .int .i64 0, .int .i64 0]).run Tryz.prog w = .ok (.int .i64 0) w := fun _ => by kernel_rfl
  go_enter Tryz.func6, Tryz.ntmps6
  go_wp2_with fail
  refine (lkTable_any _).mono ?_
  rintro e w1 ⟨p1, p2, rfl, hin, hB1⟩
  have hb1 : VRow (w1.alloc (.cells #[.int .i64 2, .int .i64 3, .slice p1 4 4, .slice p2 4 4] 25)) w1.heap.size 25 [.int .i64 2, .int .i64 3, .slice p1 4 4, .slice p2 4 4] := VRow.new w1 _ _
  have hW1 : Below w.heap.size w (w1.alloc (.cells #[.int .i64 2, .int .i64 3, .slice p1 4 4, .slice p2 4 4] 25)) := hB1.alloc hB1.size _
  have hin1 := hin.below ((Below.refl w1.heap.size w1).alloc (Nat.le_refl _) (.cells #[.int .i64 2, .int .i64 3, .slice p1 4 4, .slice p2 4 4] 25))
  go_wp2_with fail
  have s1 := Sl.of_vrow (enc := Value.int .i64) (l := [0, 0, 1]) (VRow.new1 w1 (.cells #[.int .i64 2, .int .i64 3, .slice p1 4 4, .slice p2 4 4] 25) 3 ([0, 0, 1].map (Value.int .i64)))
  have hA1 : Below (w1.alloc (.cells #[.int .i64 2, .int .i64 3, .slice p1 4 4, .slice p2 4 4] 25)).heap.size (w1.alloc (.cells #[.int .i64 2, .int .i64 3, .slice p1 4 4, .slice p2 4 4] 25)) ((w1.alloc (.cells #[.int .i64 2, .int .i64 3, .slice p1 4 4, .slice p2 4 4] 25)).alloc (.cells ([0, 0, 1].map (Value.int .i64)).toArray 3)) := (Below.refl _ _).alloc (Nat.le_refl _) _
  refine (encEx p1 p2 _ 0 0 1 _ _ (hin1.below hA1) s1 ex1).mono ?_
  rintro e v1 ⟨rfl, hE1⟩
  have hT1 := hA1.trans (hE1.mono hA1.size)
  have hin2 := hin1.below hT1
  have hb2 := hb1.below hT1 hb1.lt
  have g2 := hb2.at 0 rfl; have m2 := hb2.at 1 rfl; have n2 := hb2.at 2 rfl; have o2 := hb2.at 3 rfl
  have hW2 := hW1.trans (hT1.mono hW1.size)
  clear hE1 hA1 s1
  go_wp2_with fail
  have s2 := Sl.of_vrow (enc := Value.int .i64) (l := [0, 1, 0]) (VRow.new v1 3 ([0, 1, 0].map (Value.int .i64)))
  have hA2 : Below v1.heap.size v1 (v1.alloc (.cells ([0, 1, 0].map (Value.int .i64)).toArray 3)) := (Below.refl _ _).alloc (Nat.le_refl _) _
  refine (encEx p1 p2 _ 0 1 0 _ _ (hin2.below hA2) s2 ex2).mono ?_
  rintro e v2 ⟨rfl, hE2⟩
  have hT2 := hA2.trans (hE2.mono hA2.size)
  have hin3 := hin2.below hT2
  have hb3 := hb2.below hT2 hb2.lt
  have g3 := hb3.at 0 rfl; have m3 := hb3.at 1 rfl; have n3 := hb3.at 2 rfl; have o3 := hb3.at 3 rfl
  have hW3 := hW2.trans (hT2.mono hW2.size)
  clear hE2 hA2 s2
  clear g2 m2 n2 o2
  go_wp2_with fail
  have s3 := Sl.of_vrow (enc := Value.int .i64) (l := [1, 0, 3]) (VRow.new v2 3 ([1, 0, 3].map (Value.int .i64)))
  have hA3 : Below v2.heap.size v2 (v2.alloc (.cells ([1, 0, 3].map (Value.int .i64)).toArray 3)) := (Below.refl _ _).alloc (Nat.le_refl _) _
  refine (encEx p1 p2 _ 1 0 3 _ _ (hin3.below hA3) s3 ex3).mono ?_
  rintro e v3 ⟨rfl, hE3⟩
  have hT3 := hA3.trans (hE3.mono hA3.size)
  have hin4 := hin3.below hT3
  have hb4 := hb3.below hT3 hb3.lt
  have g4 := hb4.at 0 rfl; have m4 := hb4.at 1 rfl; have n4 := hb4.at 2 rfl; have o4 := hb4.at 3 rfl
  have hW4 := hW3.trans (hT3.mono hW3.size)
  clear hE3 hA3 s3
  clear g3 m3 n3 o3
  go_wp2_with fail
  refine (decEx p1 p2 ⟨#[49, 48, 49, 48, 49, 48]⟩ [0, 3] _ hin4 (by decide +kernel) ex4).mono ?_
  rintro e v4 ⟨q, d, rfl, hs4, hE4⟩
  have hW5 := hW4.trans (hE4.mono hW4.size)
  have s5 := Sl.of_vrow (enc := Value.int .i64) (l := [0, 3]) (VRow.new v4 3 (([0, 3] : List Int).map (Value.int .i64)))
  clear g4 m4 n4 o4
  go_wp2_with fail
  refine (eqEx q _ d _ (hs4.below ((Below.refl _ _).alloc (Nat.le_refl _) _)) s5).mono ?_
  rintro e v5 ⟨rfl, hD5⟩
  go_wp2
  go_ret
  exact ⟨rfl, (hW5.alloc hW5.size _).trans (hD5.below _)⟩
end Go.Proofs.YtjponanfpdmeoaaGreatDoor
namespace Go.Proofs.YtjponanfpdmeoaaGreatDoor
open Go.RowKit

theorem lkEncode_r (T : Tb) (p1 p2 : Option Addr) (c1 c2 : Nat) (l : List Int) (pl : Option Addr) (cl : Nat) (w : World) (hin : TbIn w T p1 p2 c1 c2) (hl : Sl w (Value.int .i64) pl l) (hln : l.length ≤ 1000) (hcl : l.length ≤ cl) (r : ByteArray) (k : Int) (hr : encA T l = (r, k)) :
    Calls Tryz.prog 15 #[.agg #[.int .i64 T.q, .int .i64 T.n, .slice p1 T.base.length c1, .slice p2 T.swaps.length c2], .slice pl l.length cl] w fun e w' => e = .returned (.tuple #[.string r, .int .i64 k]) ∧ Below w.heap.size w w' := by
  have := lkEncode_any T p1 p2 c1 c2 l pl cl w hin hl hln hcl
  rw [hr] at this
  exact this
theorem lkEncode_n (T : Tb) (p1 p2 : Option Addr) (c1 c2 : Nat) (l : List Int) (pl : Option Addr) (cl : Nat) (w : World) (hin : TbIn w T p1 p2 c1 c2) (hl : Sl w (Value.int .i64) pl l) (hln : l.length ≤ 1000) (hcl : l.length ≤ cl) (r : ByteArray) (k : Int) (hr : encA T l = (r, k)) (n : Nat) (hn : l.length = n) :
    Calls Tryz.prog 15 #[.agg #[.int .i64 T.q, .int .i64 T.n, .slice p1 T.base.length c1, .slice p2 T.swaps.length c2], .slice pl n cl] w fun e w' => e = .returned (.tuple #[.string r, .int .i64 k]) ∧ Below w.heap.size w w' := by
  subst hn
  exact lkEncode_r T p1 p2 c1 c2 l pl cl w hin hl hln hcl r k hr
/-- What is written for two lists and for both of them together. -/
def Enc3 (T : Tb) (a b : List Int) (u v x : ByteArray) (k : Int) : Prop := encA T a = (u, k) ∧ encA T b = (v, k) ∧ encA T (a ++ b) = (x, k)
theorem enc3_bad {T : Tb} (a b : List Int) (h : fmd T = false) : Enc3 T a b ⟨#[]⟩ ⟨#[]⟩ ⟨#[]⟩ 1 := ⟨encA_bad a h, encA_bad b h, encA_bad _ h⟩
theorem enc3_ok {T : Tb} {a b : List Int} (h : fmd T = true) (ha : a.any (outB T.base.length) = false) (hb : b.any (outB T.base.length) = false) : Enc3 T a b (encW T a) (encW T b) (encW T (a ++ b)) 0 :=
  ⟨encA_ok h ha, encA_ok h hb, encA_ok h (any_app_f ha hb)⟩
/-- Two lists of numbers in two slots. -/
def Two (w : World) (A B : List Int) (v u : Value) (wx : World) : Prop :=
  ∃ pa ca pb cb, v = .slice pa A.length ca ∧ u = .slice pb B.length cb ∧ Sl wx (Value.int .i64) pa A ∧ Sl wx (Value.int .i64) pb B ∧ A.length ≤ ca ∧ B.length ≤ cb ∧ Below w.heap.size w wx
theorem box_below {w wx : World} {T : Tb} {p1 p2 : Option Addr} {c1 c2 : Nat} (h : Below (w.alloc (.cells #[.int .i64 T.q, .int .i64 T.n, .slice p1 T.base.length c1, .slice p2 T.swaps.length c2] 25)).heap.size (w.alloc (.cells #[.int .i64 T.q, .int .i64 T.n, .slice p1 T.base.length c1, .slice p2 T.swaps.length c2] 25)) wx) :
    VRow wx w.heap.size 25 [.int .i64 T.q, .int .i64 T.n, .slice p1 T.base.length c1, .slice p2 T.swaps.length c2] :=
  (VRow.new w _ _).below h (by simp)

end Go.Proofs.YtjponanfpdmeoaaGreatDoor
namespace Go.Proofs.YtjponanfpdmeoaaGreatDoor
open Go.ChangeShapes Go.WideShapes Go.ChangeAt Go.RowKit

theorem own : ownKnob Tryz.prog.godebug = none := by kernel_rfl
theorem laidOut : laidOutB Tryz.prog = true := by kernel_rfl

theorem trodAll_below {H : Type} {enc : TypeId × Value → H} {W W' : World} (hb : Below W.heap.size W W') :
    ∀ (ts : List TypeId) (vs : List Value) (ds : List (DataW H)) (p : List MemPlace), (∀ t ∈ ts, Tryz.prog.readableRec t = true ∧ t < Tryz.prog.types.size) →
      DataW.TrodAll enc Tryz.prog W 0 (fun _ => true) true ts vs ds p → (∀ x ∈ p, x.block < W.heap.size) →
      DataW.TrodAll enc Tryz.prog W' 0 (fun b => decide (b < W.heap.size)) true ts vs ds p
  | [], vs, ds, p, _, h, _ => by
    obtain ⟨rfl, rfl, rfl⟩ := trodAll_nil h
    exact trodAll_mk0
  | t :: ts, vs, ds, p, ht, h, hlt => by
    obtain ⟨v, vs', d, ds', p', q', rfl, rfl, rfl, h0, h1⟩ := trodAll_cons h
    exact trodAll_cons_mk (Below.trod laidOut (ht t List.mem_cons_self).1 (ht t List.mem_cons_self).2 h0 hb (fun x hx => hlt x (List.mem_append_left _ hx)))
      (trodAll_below hb ts vs' ds' q' (fun t h => ht t (List.mem_cons_of_mem _ h)) h1 (fun x hx => hlt x (List.mem_append_right _ hx)))

/-- What the row asks behind the call of a law. -/
theorem law_post {H : Type} {enc : TypeId × Value → H} {f : Func} {s : ChangeSpec} {W W' : World} {args : Array Value} {ds gs : List (DataW H)} {before : List MemPlace}
    (hW : DataW.Whole enc Tryz.prog f.params.toList s.vars false W args.toList ds gs before) (hv : s.vars = [])
    (hr : f.resultTypes = #[4]) (ht : ∀ t ∈ f.params.toList, Tryz.prog.readableRec t = true ∧ t < Tryz.prog.types.size)
    (hfr : (s.fn H (ds ++ gs)).results = [.lit (.bool true)]) (hfa : (s.fn H (ds ++ gs)).args = ds) (hfv : (s.fn H (ds ++ gs)).vars = [])
    (hB : Below W.heap.size W W') : s.post enc Tryz.prog f false true false false W args (.bool true) W' := by
  have hW' := hW
  obtain ⟨p, q, hA, hV, rfl, hfz, hnd⟩ := hW
  have hlt : ∀ x ∈ p, x.block < W.heap.size := fun x hx => hW'.lt x (List.mem_append_left _ hx)
  refine ⟨ds, gs, _, [] ++ [], p, [], hW', ?_, ?_, ?_, hB.frame _, fun h => by cases h⟩
  · rw [hfr, hr]; exact trodAll_mk1 (shut_bool Tryz.underlying4 true)
  · rw [hfa]; exact trodAll_below hB _ _ _ _ ht hA hlt
  · rw [hfv, hv]; exact rfl
end Go.Proofs.YtjponanfpdmeoaaGreatDoor
namespace Go.Proofs.YtjponanfpdmeoaaGreatDoor
open Go.Joins Go.ChangeShapes Go.WideShapes Go.ChangeAt Go.RowKit Go.Deep

open Go.ChangeMaps (open_string shut_string)

section
variable {H : Type} {enc : TypeId × Value → H} {P : Program} {w : World} {base : Nat} {spare : Nat → Bool} {held : Bool}
theorem open_slice_fields {t e : TypeId} {fs : Array Field} {fuel : Nat} {cs : List Value} {x : DataW H × List MemPlace} (ht : P.underlying t = some (.slice e)) (he : P.underlying e = some (.struct fs))
    (hone : oneCellFields P fs = true) (hC : P.cellsOf e = fs.size) (h : DataW.trod enc P w base spare held fuel t cs = some x) :
    (cs = [.slice none 0 0] ∧ x = (.nil, [])) ∨
    ∃ (a : Addr) (len cap m : Nat) (D : Nat → DataW H) (Pl : Nat → List MemPlace), cs = [.slice (some a) len cap] ∧ base ≤ a.block ∧ len ≤ cap ∧ cap ≤ maxLen ∧ m = (if spare a.block then cap else len) ∧
      x = (.slice ((List.range len).map D) ((List.range (m - len)).map fun j => D (len + j)), MemPlace.row a (m * fs.size) ++ (List.range m).flatMap Pl) ∧
      ∀ i, i < m → ∃ (ys : List (DataW H × List MemPlace)) (n : Nat), D i = .agg (ys.map (·.1)) ∧ Pl i = ys.flatMap (·.2) ∧ ys.length = fs.size ∧
        ∀ (j : Nat) (f : Field), fs[j]? = some f → ∃ (v : Value) (y : DataW H × List MemPlace), w.cell? (a.add (i * fs.size + j)) = some v ∧ ys[j]? = some y ∧ DataW.trod enc P w base spare held n f.type [v] = some y := by
  rcases open_slice ht h with h0 | ⟨a, len, cap, m, n, D, Pl, hcs, hb, hl, hm, hmm, hx, hi⟩
  · exact .inl h0
  · refine .inr ⟨a, len, cap, m, D, Pl, hcs, hb, hl, hm, hmm, by rw [hC] at hx; exact hx, fun i him => ?_⟩
    obtain ⟨cs', hc, ht'⟩ := hi i him
    rw [hC] at hc
    obtain ⟨ys, n', hn', hy, hlen, hyl, hf⟩ := DataW.trod_struct he ht'
    obtain ⟨_, hcl, hat⟩ := World.cells?_some hc
    simp only [Prod.mk.injEq] at hy
    refine ⟨ys, n', hy.1, hy.2, hyl, fun j f hj => ?_⟩
    obtain ⟨ho, hk⟩ := hone_of hone j f hj
    have hjl : j < fs.size := (Array.getElem?_eq_some_iff.1 hj).1
    have hcell := hat j hjl
    have hv : cs'[j]? = some (cs'[j]'(by omega)) := List.getElem?_eq_getElem (by omega)
    have h1 := hf j f hj
    rw [ho, hk] at h1
    have hone' : (cs'.drop j).take 1 = [cs'[j]'(by omega)] := by
      rw [List.drop_eq_getElem_cons (by omega)]
      rfl
    rw [hone'] at h1
    have hys : ys[j]? = some (ys[j]'(by omega)) := List.getElem?_eq_getElem (by omega)
    refine ⟨_, _, ?_, hys, h1.trans hys⟩
    rw [← Go.Deep.add_add, hcell, hv]
end
/-- Elements that each exist make a list. -/
theorem list_of {α : Type} {P : Nat → α → Prop} : ∀ (n : Nat), (∀ i, i < n → ∃ x, P i x) → ∃ l : List α, l.length = n ∧ ∀ i (h : i < l.length), P i l[i]
  | 0, _ => ⟨[], rfl, fun i h => by simp at h⟩
  | n + 1, h => by
    obtain ⟨l, hl, hp⟩ := list_of n (fun i hi => h i (by omega))
    obtain ⟨x, hx⟩ := h n (by omega)
    refine ⟨l ++ [x], by simp [hl], fun i hi => ?_⟩
    by_cases h2 : i < l.length
    · rw [List.getElem_append_left h2]; exact hp i h2
    · have : i = n := by simp at hi; omega
      subst this
      subst hl
      simpa using hx

theorem cellsString : Tryz.prog.cellsOf 9 = 1 := by kernel_rfl
theorem cellsInt : Tryz.prog.cellsOf 3 = 1 := by kernel_rfl
theorem cellsLook : Tryz.prog.cellsOf 25 = 4 := by kernel_rfl
theorem readLook : Tryz.prog.readableRec 25 = true ∧ 25 < Tryz.prog.types.size := ⟨by kernel_rfl, of_decide_eq_true (by kernel_rfl)⟩
theorem readInts : Tryz.prog.readableRec 43 = true ∧ 43 < Tryz.prog.types.size := ⟨by kernel_rfl, of_decide_eq_true (by kernel_rfl)⟩
theorem readString : Tryz.prog.readableRec 9 = true ∧ 9 < Tryz.prog.types.size := ⟨by kernel_rfl, of_decide_eq_true (by kernel_rfl)⟩

/-- A list of strings inside what came in, as the walks take it. -/
theorem strings_at {H : Type} {enc : TypeId × Value → H} {W : World} {fuel : Nat} {v : Value} {y : DataW H × List MemPlace}
    (h : DataW.trod enc Tryz.prog W 0 (fun _ => true) true fuel 22 [v] = some y) (hlt : ∀ x ∈ y.2, x.block < W.heap.size) :
    ∃ (p : Option Addr) (l : List ByteArray) (c : Nat), v = .slice p l.length c ∧ Sl W Value.string p l ∧ (∀ j (hj : j < l.length), l[j].size ≤ maxLen) ∧ l.length ≤ 9223372036854775807 ∧ l.length ≤ c := by
  rcases open_strings Tryz.underlying22 Tryz.underlying9 cellsString h with ⟨hcs, hx⟩ | ⟨a, len, cap, ss, hcs, _, hl, hm, hz, hx, hcell, hws⟩
  · simp at hcs
    subst hcs
    exact ⟨none, [], 0, rfl, Sl.nil _ _ _, fun j hj => by simp at hj, by simp, by simp⟩
  · simp at hcs
    subst hcs hx
    simp only [if_true] at hz
    have hlen : (ss.take len).length = len := by simp; omega
    refine ⟨some a, ss.take len, cap, by rw [hlen], ?_, ?_, by rw [hlen]; unfold maxLen at hm; omega, by rw [hlen]; exact hl⟩
    · by_cases h0 : len = 0
      · subst h0; exact .inl (by simp)
      · obtain ⟨b, off, spot⟩ := a
        have hspot : spot = none := by simpa [Addr.add] using World.cell?_spot (hcell 0 (by omega))
        subst hspot
        refine .inr ⟨b, off, rfl, hlt (.cell b off) (MemPlace.mem_row.2 ⟨0, by omega, by simp⟩), fun i hi => ?_⟩
        rw [← add_plain, hcell i (by omega)]
        have : i < ss.length := by omega
        simp [List.getD_eq_getElem?_getD, this]
    · intro j hj
      rw [List.getElem_take]
      exact hws _ (List.getElem_mem _)
/-- A list of ints inside what came in, as the walks take it. -/
theorem ints_at {H : Type} {enc : TypeId × Value → H} {W : World} {fuel : Nat} {v : Value} {y : DataW H × List MemPlace}
    (h : DataW.trod enc Tryz.prog W 0 (fun _ => true) true fuel 43 [v] = some y) (hlt : ∀ x ∈ y.2, x.block < W.heap.size) :
    ∃ (p : Option Addr) (l : List Int) (c : Nat), v = .slice p l.length c ∧ Sl W (Value.int .i64) p l ∧ l.length ≤ 9223372036854775807 ∧ l.length ≤ c := by
  rcases open_ints Tryz.underlying43 Tryz.underlying3 cellsInt h with ⟨hcs, hx⟩ | ⟨a, len, cap, zs, hcs, _, hl, hm, hz, hx, hcell, _⟩
  · simp at hcs
    subst hcs
    exact ⟨none, [], 0, rfl, Sl.nil _ _ _, by simp, by simp⟩
  · simp at hcs
    subst hcs hx
    simp only [if_true] at hz
    have hlen : (zs.take len).length = len := by simp; omega
    refine ⟨some a, zs.take len, cap, by rw [hlen], ?_, by rw [hlen]; unfold maxLen at hm; omega, by rw [hlen]; exact hl⟩
    by_cases h0 : len = 0
    · subst h0; exact .inl (by simp)
    · obtain ⟨b, off, spot⟩ := a
      have hspot : spot = none := by simpa [Addr.add] using World.cell?_spot (hcell 0 (by omega))
      subst hspot
      refine .inr ⟨b, off, rfl, hlt (.cell b off) (MemPlace.mem_row.2 ⟨0, by omega, by simp⟩), fun i hi => ?_⟩
      rw [← add_plain, hcell i (by omega)]
      have : i < zs.length := by omega
      simp [List.getD_eq_getElem?_getD, this]
/-- A list of swaps inside what came in, as the walks take it. -/
theorem swaps_at {H : Type} {enc : TypeId × Value → H} {W : World} {fuel : Nat} {v : Value} {y : DataW H × List MemPlace}
    (h : DataW.trod enc Tryz.prog W 0 (fun _ => true) true fuel 23 [v] = some y) (hlt : ∀ x ∈ y.2, x.block < W.heap.size) :
    ∃ (p : Option Addr) (l : List Sw) (c : Nat), v = .slice p l.length c ∧ Sg 3 W swE p l ∧ (∀ j (hj : j < l.length), l[j].wd.size ≤ maxLen) ∧ l.length ≤ 9223372036854775807 := by
  rcases open_slice_fields Tryz.underlying23 Tryz.underlying62 (by kernel_rfl) (by kernel_rfl) h with ⟨hcs, hx⟩ | ⟨a, len, cap, m, D, Pl, hcs, _, hl, hm, hmm, hx, hf⟩
  · simp at hcs
    subst hcs
    exact ⟨none, [], 0, rfl, Sg.nil _ _ _ _, fun j hj => by simp at hj, by simp⟩
  · simp at hcs
    subst hcs hx
    simp only [if_true] at hmm
    subst hmm
    obtain ⟨l, hll, hp⟩ := list_of (P := fun i (s : Sw) => W.cell? (a.add (i * 3 + 0)) = some (.int .i64 s.i) ∧ W.cell? (a.add (i * 3 + 1)) = some (.int .i64 s.j) ∧ W.cell? (a.add (i * 3 + 2)) = some (.string s.wd) ∧ s.wd.size ≤ maxLen) len (fun i hi => by
      obtain ⟨ys, n, _, _, _, hj⟩ := hf i (by omega)
      obtain ⟨v0, y0, hc0, _, h0⟩ := hj 0 _ rfl
      obtain ⟨v1, y1, hc1, _, h1⟩ := hj 1 _ rfl
      obtain ⟨v2, y2, hc2, _, h2⟩ := hj 2 _ rfl
      obtain ⟨n0, e0, _, _⟩ := DataW.trod_int Tryz.underlying3 h0
      obtain ⟨n1, e1, _, _⟩ := DataW.trod_int Tryz.underlying3 h1
      obtain ⟨s2, e2, _, hs⟩ := DataW.trod_string Tryz.underlying9 h2
      simp at e0 e1 e2
      subst e0 e1 e2
      exact ⟨⟨n0, n1, s2⟩, hc0, hc1, hc2, hs⟩)
    subst hll
    refine ⟨some a, l, _, rfl, ?_, fun j hj => (hp j hj).2.2.2, by unfold maxLen at hm; omega⟩
    by_cases h0 : l.length = 0
    · exact .inl (List.length_eq_zero_iff.1 h0)
    · obtain ⟨b, off, spot⟩ := a
      have hspot : spot = none := by simpa [Addr.add] using World.cell?_spot (hp 0 (by omega)).1
      subst hspot
      refine .inr ⟨b, off, rfl, hlt (.cell b off) (List.mem_append_left _ (MemPlace.mem_row.2 ⟨0, Nat.mul_pos (by omega) (by decide), by simp⟩)), fun i hi j hj => ?_⟩
      have hc := hp i hi
      have : j = 0 ∨ j = 1 ∨ j = 2 := by omega
      rw [Nat.add_assoc, ← add_plain]
      rcases this with rfl | rfl | rfl
      · rw [hc.1]; rfl
      · rw [hc.2.1]; rfl
      · rw [hc.2.2.1]; rfl
set_option maxRecDepth 100000 in
/-- A table that came in, as the walks take it. -/
theorem table_in {H : Type} {enc : TypeId × Value → H} {W : World} {ps : List MemPlace} {v : Value} {d : DataW H} {base : Nat} (hval : Value.okWide Tryz.prog W .any base 25 v)
    (h : DataW.Trod enc Tryz.prog W 0 (fun _ => true) true 25 v d ps) (hlt : ∀ x ∈ ps, x.block < W.heap.size) :
    ∃ (T : Tb) (p1 p2 : Option Addr) (c1 c2 : Nat), v = .agg #[.int .i64 T.q, .int .i64 T.n, .slice p1 T.base.length c1, .slice p2 T.swaps.length c2] ∧ TbIn W T p1 p2 c1 c2 := by
  obtain ⟨v0, v1, v2, v3, y0, y1, y2, y3, n, rfl, rfl, rfl, h0, h1, h2, h3⟩ := open_agg4 Tryz.underlying25 (by kernel_rfl) cellsLook hval h
  obtain ⟨q, e0, _, _⟩ := DataW.trod_int Tryz.underlying3 h0
  obtain ⟨k, e1, _, _⟩ := DataW.trod_int Tryz.underlying3 h1
  simp at e0 e1
  subst e0 e1
  obtain ⟨p1, l1, c1, rfl, s1, z1, b1, cap1⟩ := strings_at h2 (fun x hx => hlt x (List.mem_append_right _ (List.mem_append_right _ (List.mem_append_left _ hx))))
  obtain ⟨p2, l2, c2, rfl, s2, z2, b2⟩ := swaps_at h3 (fun x hx => hlt x (List.mem_append_right _ (List.mem_append_right _ (List.mem_append_right _ hx))))
  exact ⟨⟨q, k, l1, l2⟩, p1, p2, c1, c2, rfl, ⟨s1, s2, cap1, b1, b2, z1, z2⟩⟩

theorem cellsGraph : Tryz.prog.cellsOf 28 = 3 := by kernel_rfl
theorem readGraph : Tryz.prog.readableRec 28 = true ∧ 28 < Tryz.prog.types.size := ⟨by kernel_rfl, of_decide_eq_true (by kernel_rfl)⟩
/-- A list of edges inside what came in, as the walks take it. -/
theorem edges_at {H : Type} {enc : TypeId × Value → H} {W : World} {fuel : Nat} {v : Value} {y : DataW H × List MemPlace}
    (h : DataW.trod enc Tryz.prog W 0 (fun _ => true) true fuel 26 [v] = some y) (hlt : ∀ x ∈ y.2, x.block < W.heap.size) :
    ∃ (p : Option Addr) (l : List Ed) (c : Nat), v = .slice p l.length c ∧ Sg 3 W edE p l ∧ l.length ≤ 9223372036854775807 := by
  rcases open_slice_fields Tryz.underlying26 Tryz.underlying99 (by kernel_rfl) (by kernel_rfl) h with ⟨hcs, hx⟩ | ⟨a, len, cap, m, D, Pl, hcs, _, hl, hm, hmm, hx, hf⟩
  · simp at hcs
    subst hcs
    exact ⟨none, [], 0, rfl, Sg.nil _ _ _ _, by simp⟩
  · simp at hcs
    subst hcs hx
    simp only [if_true] at hmm
    subst hmm
    obtain ⟨l, hll, hp⟩ := list_of (P := fun i (s : Ed) => W.cell? (a.add (i * 3 + 0)) = some (.int .i64 s.f) ∧ W.cell? (a.add (i * 3 + 1)) = some (.int .i64 s.l) ∧ W.cell? (a.add (i * 3 + 2)) = some (.int .i64 s.t)) len (fun i hi => by
      obtain ⟨ys, n, _, _, _, hj⟩ := hf i (by omega)
      obtain ⟨v0, y0, hc0, _, h0⟩ := hj 0 _ rfl
      obtain ⟨v1, y1, hc1, _, h1⟩ := hj 1 _ rfl
      obtain ⟨v2, y2, hc2, _, h2⟩ := hj 2 _ rfl
      obtain ⟨n0, e0, _, _⟩ := DataW.trod_int Tryz.underlying3 h0
      obtain ⟨n1, e1, _, _⟩ := DataW.trod_int Tryz.underlying3 h1
      obtain ⟨n2, e2, _, _⟩ := DataW.trod_int Tryz.underlying3 h2
      simp at e0 e1 e2
      subst e0 e1 e2
      exact ⟨⟨n0, n1, n2⟩, hc0, hc1, hc2⟩)
    subst hll
    refine ⟨some a, l, _, rfl, ?_, by unfold maxLen at hm; omega⟩
    by_cases h0 : l.length = 0
    · exact .inl (List.length_eq_zero_iff.1 h0)
    · obtain ⟨b, off, spot⟩ := a
      have hspot : spot = none := by simpa [Addr.add] using World.cell?_spot (hp 0 (by omega)).1
      subst hspot
      refine .inr ⟨b, off, rfl, hlt (.cell b off) (List.mem_append_left _ (MemPlace.mem_row.2 ⟨0, Nat.mul_pos (by omega) (by decide), by simp⟩)), fun i hi j hj => ?_⟩
      have hc := hp i hi
      have : j = 0 ∨ j = 1 ∨ j = 2 := by omega
      rw [Nat.add_assoc, ← add_plain]
      rcases this with rfl | rfl | rfl
      · rw [hc.1]; rfl
      · rw [hc.2.1]; rfl
      · rw [hc.2.2]; rfl
set_option maxRecDepth 100000 in
/-- A graph that came in, as the walks take it. -/
theorem graph_in {H : Type} {enc : TypeId × Value → H} {W : World} {ps : List MemPlace} {v : Value} {d : DataW H} {base : Nat} (hval : Value.okWide Tryz.prog W .any base 28 v)
    (h : DataW.Trod enc Tryz.prog W 0 (fun _ => true) true 28 v d ps) (hlt : ∀ x ∈ ps, x.block < W.heap.size) :
    ∃ (G : Gr) (p : Option Addr) (c : Nat), v = .agg #[.int .i64 G.q, .int .i64 G.n, .slice p G.es.length c] ∧ Sg 3 W edE p G.es ∧ G.es.length ≤ 9223372036854775807 := by
  obtain ⟨v0, v1, v2, y0, y1, y2, n, rfl, rfl, rfl, h0, h1, h2⟩ := open_agg3 Tryz.underlying28 (by kernel_rfl) cellsGraph hval h
  obtain ⟨q, e0, _, _⟩ := DataW.trod_int Tryz.underlying3 h0
  obtain ⟨k, e1, _, _⟩ := DataW.trod_int Tryz.underlying3 h1
  simp at e0 e1
  subst e0 e1
  obtain ⟨p, l, c, rfl, s, b⟩ := edges_at h2 (fun x hx => hlt x (List.mem_append_right _ (List.mem_append_right _ hx)))
  exact ⟨⟨q, k, l⟩, p, c, rfl, s, b⟩

theorem cellsU8 : Tryz.prog.cellsOf 5 = 1 := by kernel_rfl
theorem readU8s : Tryz.prog.readableRec 65 = true ∧ 65 < Tryz.prog.types.size := ⟨by kernel_rfl, of_decide_eq_true (by kernel_rfl)⟩
/-- A list of bytes inside what came in, as the walks take it. -/
theorem u8s_at {H : Type} {enc : TypeId × Value → H} {W : World} {fuel : Nat} {v : Value} {y : DataW H × List MemPlace}
    (h : DataW.trod enc Tryz.prog W 0 (fun _ => true) true fuel 65 [v] = some y) (hlt : ∀ x ∈ y.2, x.block < W.heap.size) :
    ∃ (p : Option Addr) (l : List UInt8) (c : Nat), v = .slice p l.length c ∧ Sl W u8v p l ∧ l.length ≤ 9223372036854775807 ∧ l.length ≤ c := by
  rcases open_ints Tryz.underlying65 Tryz.underlying5 cellsU8 h with ⟨hcs, hx⟩ | ⟨a, len, cap, zs, hcs, _, hl, hm, hz, hx, hcell, hwf⟩
  · simp at hcs
    subst hcs
    exact ⟨none, [], 0, rfl, Sl.nil _ _ _, by simp, by simp⟩
  · simp at hcs
    subst hcs hx
    simp only [if_true] at hz
    have hlen : ((zs.take len).map (fun n => UInt8.ofNat n.toNat)).length = len := by simp; omega
    refine ⟨some a, (zs.take len).map (fun n => UInt8.ofNat n.toNat), cap, by rw [hlen], ?_, by rw [hlen]; unfold maxLen at hm; omega, by rw [hlen]; exact hl⟩
    by_cases h0 : len = 0
    · subst h0; exact .inl (by simp)
    · obtain ⟨b, off, spot⟩ := a
      have hspot : spot = none := by simpa [Addr.add] using World.cell?_spot (hcell 0 (by omega))
      subst hspot
      refine .inr ⟨b, off, rfl, hlt (.cell b off) (MemPlace.mem_row.2 ⟨0, by omega, by simp⟩), fun i hi => ?_⟩
      have hi' : i < zs.length := by rw [hlen] at hi; omega
      have hw := hwf _ (List.getElem_mem hi')
      rw [← add_plain, hcell i hi']
      have hb : 0 ≤ zs[i] ∧ zs[i] < 256 := by
        have := hw
        simp [Lit.wf, show IntKind.u8.min = 0 from rfl, show IntKind.u8.max = 255 from rfl] at this
        omega
      simp [List.getD_eq_getElem?_getD, hi', u8v]
      omega


set_option maxRecDepth 100000 in
theorem door_metN (os : Os) (args : Array Value) : laidMetH Tryz.prog Rows.lookaheadChecksRow.laid ((World.doorLaid Tryz.prog 24 os).forCall (fun _ _ => 0) ⟨#[], args, []⟩).memory :=
  laidMetH_of_parts3 (fuel := 8) (laidMet_of_run' 8 (by kernel_rfl) (by kernel_rfl)) (by kernel_rfl) (by kernel_rfl)

theorem pow10_list : ((Rows.lookaheadChecksRow.laid.filter (fun x => x.1 == "internal/strconv.uint64pow10")).filter fun x => x.2.handleName?.isNone) = [("internal/strconv.uint64pow10", Lib.tabData .u64 Lib.pow10Tab)] := by kernel_rfl
theorem pow10_in {W : World} (h : laidMetH Tryz.prog Rows.lookaheadChecksRow.laid W) : T10 W := by
  have h2 := (laidMetH_iff.1 (h.filter (fun x => x.1 == "internal/strconv.uint64pow10"))).1
  rw [pow10_list] at h2
  exact Lib.tabIs_of_head (g := 1) (t := 149) (e := 130) (n := 20) (by kernel_rfl) (by kernel_rfl) (by kernel_rfl) (by kernel_rfl) (by kernel_rfl) (by kernel_rfl) h2
end Go.Proofs.YtjponanfpdmeoaaGreatDoor
namespace Go.Proofs.YtjponanfpdmeoaaGreatDoor
open Go.RowKit Go.ChangeMaps Go.MapKept Go.Maps

/-- The entries' numbers. -/
def Bo (w : World) (b : Nat) : Prop := ∃ es clock, w.heap[b]? = some (.map es clock) ∧ (es.toList.map (·.born)).Nodup ∧ ∀ e ∈ es.toList, e.born < clock
theorem Bo.same {w w' : World} {b : Nat} (h : Bo w b) (hb : w'.heap[b]? = w.heap[b]?) : Bo w' b := by
  obtain ⟨es, clock, h1, h2⟩ := h
  exact ⟨es, clock, hb.trans h1, h2⟩
theorem Bo.made (w : World) : Bo (w.alloc (.map #[] 0)) w.heap.size := ⟨#[], 0, heap_alloc_new w _, by simp, by simp⟩
section
variable {α β : Type} {kv : α → Value} {ok : α → Prop} {vv : β → Value} {w : World} {b : Nat} {f : α → Option β} {P : Program} {k : TypeId}
/-- A map with its entries' numbers. -/
def MpB (kv : α → Value) (ok : α → Prop) (vv : β → Value) (w : World) (b : Nat) (f : α → Option β) : Prop := Mp kv ok vv w b f ∧ Bo w b
theorem MpB.same {w' : World} (h : MpB kv ok vv w b f) (hb : w'.heap[b]? = w.heap[b]?) : MpB kv ok vv w' b f := ⟨h.1.same hb, h.2.same hb⟩
theorem MpB.lt (h : MpB kv ok vv w b f) : b < w.heap.size := h.1.lt
theorem MpB.made (w : World) : MpB kv ok vv (w.alloc (.map #[] 0)) w.heap.size (fun _ => none) := ⟨Mp.made w, Bo.made w⟩
theorem MpB.congr {g : α → Option β} (h : MpB kv ok vv w b f) (e : ∀ a, f a = g a) : MpB kv ok vv w b g := ⟨h.1.congr e, h.2⟩
theorem MpB.store [DecidableEq α] {t e : TypeId} (h : MpB kv ok vv w b f) (K : KeyBy P k kv ok) (ht : P.underlying t = some (.map k e)) (a : α) (ha : ok a) (x : β) :
    ∃ w', (Instr.mapUpdate t (.map (some b)) (kv a) (vv x)).run P w = .ok () w' ∧ MpB kv ok vv w' b (mset f a x) ∧ w.mapTurned w' b := by
  obtain ⟨w', hrun, h2, h3⟩ := Mp.store (t := t) h.1 K ht a ha x
  refine ⟨w', hrun, ⟨h2, ?_⟩, h3⟩
  obtain ⟨es, clock, hb, hd, hr, hc⟩ := h.1
  obtain ⟨es', clock', hb', hbn, hbl⟩ := h.2
  rw [hb] at hb'; cases hb'
  obtain ⟨kl, hkey⟩ := K.reads a ha
  have hkeys : ∀ e ∈ es.toList, ∃ l, keyOf P k e.key = some l := fun e he => by
    obtain ⟨a', y, h1, h2, _⟩ := hr e he
    rw [h1]; exact K.reads a' h2
  rcases K.law.find w hkey es.toList hkeys with ⟨h1, _⟩ | ⟨j, e0, h1, h2', h3'⟩
  · have hr2 : (Instr.mapUpdate t (.map (some b)) (kv a) (vv x)).run P w = .ok () (setBlock w b (.map (es.push ⟨kv a, vv x, clock⟩) (clock + 1))) := by
      simp [Instr.mapUpdate, run_underlying ht, MapKept.run_getObj_map hb, K.law.check w false hkey, h1, MapKept.run_setObj_map _ hb, Result.andThen, setBlock]
    rw [hrun] at hr2
    cases hr2
    refine ⟨_, _, heap_setBlock_same hb _, ?_, ?_⟩
    · rw [Array.toList_push, List.map_append, List.nodup_append]
      refine ⟨hbn, by simp, ?_⟩
      intro x hx y hy
      simp at hy; subst hy
      obtain ⟨e, he, rfl⟩ := List.mem_map.1 hx
      have := hbl e he; omega
    · intro e he
      rw [Array.toList_push, List.mem_append, List.mem_singleton] at he
      rcases he with he | rfl
      · have := hbl e he; omega
      · show clock < clock + 1
        omega
  · have hj : es[j]? = some e0 := by simpa using h2'
    have hst := K.law.stays w hkey
    have hr2 : (Instr.mapUpdate t (.map (some b)) (kv a) (vv x)).run P w = .ok () (setBlock w b (.map (es.modify j (fun e' => { e' with key := kv a, val := vv x })) clock)) := by
      simp [Instr.mapUpdate, run_underlying ht, MapKept.run_getObj_map hb, K.law.check w false hkey, h1, hj, h3', hst, MapKept.run_setObj_map _ hb, Result.andThen, setBlock]
    rw [hrun] at hr2
    cases hr2
    have hlist : (es.modify j (fun e' => { e' with key := kv a, val := vv x })).toList = es.toList.set j { e0 with key := kv a, val := vv x } := by rw [Array.toList_modify, modify_eq_set _ _ _ _ h2']
    have hbm : (es.toList.set j { e0 with key := kv a, val := vv x }).map (·.born) = es.toList.map (·.born) := by
      rw [List.map_set]
      apply List.ext_getElem?
      intro i
      rw [List.getElem?_set]
      split
      · rename_i hi; subst hi
        have hjl : j < es.toList.length := (List.getElem?_eq_some_iff.1 h2').1
        rw [if_pos (by simpa using hjl), List.getElem?_map, h2']
        rfl
      · rfl
    refine ⟨_, _, heap_setBlock_same hb _, by rw [hlist, hbm]; exact hbn, ?_⟩
    intro e he
    have : e.born ∈ (es.toList.set j { e0 with key := kv a, val := vv x }).map (·.born) := by rw [← hlist]; exact List.mem_map_of_mem he
    rw [hbm] at this
    obtain ⟨e', he', hb'⟩ := List.mem_map.1 this
    rw [← hb']; exact hbl e' he'

/-- Block r ranges over the map in block b; ks: the keys that have come. -/
def RgA (kv : α → Value) (ok : α → Prop) (vv : β → Value) (w : World) (b r : Nat) (ks : List α) (f : α → Option β) : Prop :=
  ∃ (es : Array MapEntry) (clock : Nat) (seen : Array Nat) (vis : List MapEntry), w.heap[b]? = some (.map es clock) ∧ w.heap[r]? = some (.mapIter (some b) clock seen clock) ∧ (es.toList.map (·.born)).Nodup ∧ (∀ e ∈ es.toList, e.born < clock) ∧
    es.toList.Pairwise (fun x y => x.key ≠ y.key) ∧ (∀ e ∈ es.toList, ∃ s x, e.key = kv s ∧ ok s ∧ e.val = vv x ∧ f s = some x) ∧ (∀ s x, f s = some x → ∃ e ∈ es.toList, e.key = kv s) ∧
    ks.map kv = vis.map (·.key) ∧ seen.toList = vis.map (·.born) ∧ (∀ e ∈ vis, e ∈ es.toList) ∧ (∀ s ∈ ks, ok s)
/-- How many entries are to come. -/
def rgLe (w : World) (b r : Nat) : Nat := match w.heap[b]?, w.heap[r]? with
  | some (.map es _), some (.mapIter _ _ seen _) => (leftOf es seen).size
  | _, _ => 0
theorem rgLe_eq {w w' : World} {b r : Nat} (hb : w'.heap[b]? = w.heap[b]?) (hr : w'.heap[r]? = w.heap[r]?) : rgLe w' b r = rgLe w b r := by unfold rgLe; rw [hb, hr]
theorem RgA.same {w w' : World} {b r : Nat} {ks : List α} {f : α → Option β} (h : RgA kv ok vv w b r ks f) (hb : w'.heap[b]? = w.heap[b]?) (hr : w'.heap[r]? = w.heap[r]?) : RgA kv ok vv w' b r ks f := by
  obtain ⟨es, clock, seen, vis, h1, h2, h3⟩ := h
  exact ⟨es, clock, seen, vis, hb.trans h1, hr.trans h2, h3⟩
theorem RgA.lt {w : World} {b r : Nat} {ks : List α} {f : α → Option β} (h : RgA kv ok vv w b r ks f) : b < w.heap.size ∧ r < w.heap.size ∧ b ≠ r := by
  obtain ⟨es, clock, seen, vis, h1, h2, h3⟩ := h
  refine ⟨(Array.getElem?_eq_some_iff.1 h1).1, (Array.getElem?_eq_some_iff.1 h2).1, ?_⟩
  rintro rfl
  rw [h1] at h2; cases h2
theorem RgA.iter {w : World} {b r : Nat} {ks : List α} {f : α → Option β} (h : RgA kv ok vv w b r ks f) : ∃ o, w.heap[r]? = some o ∧ o.isCells = false ∧ o.isWalk = true := by
  obtain ⟨es, clock, seen, vis, h1, h2, h3⟩ := h
  exact ⟨_, h2, rfl, rfl⟩
theorem RgA.mapO {w : World} {b r : Nat} {ks : List α} {f : α → Option β} (h : RgA kv ok vv w b r ks f) : ∃ o, w.heap[b]? = some o ∧ o.isCells = false := by
  obtain ⟨es, clock, seen, vis, h1, h2, h3⟩ := h
  exact ⟨_, h1, rfl⟩
theorem RgA.map {w : World} {b r : Nat} {ks : List α} {f : α → Option β} (h : RgA kv ok vv w b r ks f) : Mp kv ok vv w b f := by
  obtain ⟨es, clock, seen, vis, h1, h2, h3, h4, h5, h6, h7, h8⟩ := h
  exact ⟨es, clock, h1, h5, h6, h7⟩
theorem RgA.mapB {w : World} {b r : Nat} {ks : List α} {f : α → Option β} (h : RgA kv ok vv w b r ks f) : MpB kv ok vv w b f := by
  obtain ⟨es, clock, seen, vis, h1, h2, h3, h4, h5, h6, h7, h8⟩ := h
  exact ⟨⟨es, clock, h1, h5, h6, h7⟩, es, clock, h1, h3, h4⟩
/-- The range begins. -/
theorem RgA.start {t e : TypeId} {w : World} {b : Nat} {f : α → Option β} (h : MpB kv ok vv w b f) (ht : P.underlying t = some (.map k e)) :
    ∃ w', (Instr.range t (.map (some b))).run P w = .ok (.pointer (some ⟨w.heap.size, 0, none⟩)) w' ∧ RgA kv ok vv w' b w.heap.size [] f ∧ w'.heap.size = w.heap.size + 1 ∧ w.grownBy w' none := by
  obtain ⟨es, clock, hb, hd, hr, hc⟩ := h.1
  obtain ⟨es', clock', hb', hbn, hbl⟩ := h.2
  rw [hb] at hb'; cases hb'
  refine ⟨_, run_range_map w t k _ b es clock ht hb, ⟨es, clock, #[], [], ?_, heap_alloc_new w _, hbn, hbl, hd, hr, hc, rfl, rfl, by simp, by simp⟩, World.size_alloc _ _, World.grownBy_alloc w _ none⟩
  · rw [Below.heap_alloc w _ b h.lt]; exact hb
theorem setB_at {w : World} {r : Nat} {o o' : Obj} (h : w.heap[r]? = some o) : (setBlock w r o').heap[r]? = some o' := by
  have := (Array.getElem?_eq_some_iff.1 h).1
  simp [setBlock, this]
theorem setB_ne {w : World} {r i : Nat} {o' : Obj} (h : i ≠ r) : (setBlock w r o').heap[i]? = w.heap[i]? := by
  have h' : r ≠ i := fun e => h e.symm
  simp [setBlock, Array.getElem?_setIfInBounds, h']
/-- The range's step. -/
theorem RgA.next {w : World} {b r : Nat} {ks : List α} {f : α → Option β} (h : RgA kv ok vv w b r ks f) (hinj : ∀ a a', ok a → ok a' → kv a = kv a' → a = a') (ty : TypeId) :
    ((∀ s y, ok s → f s = some y → s ∈ ks) ∧ (Instr.next (.pointer (some ⟨r, 0, none⟩)) false ty).run P w = .ok (.tuple #[.bool false]) w) ∨
    ∃ x y w', f x = some y ∧ x ∉ ks ∧ ok x ∧ (Instr.next (.pointer (some ⟨r, 0, none⟩)) false ty).run P w = .ok (.tuple #[.bool true, kv x, vv y]) w' ∧ RgA kv ok vv w' b r (ks ++ [x]) f ∧ rgLe w' b r < rgLe w b r ∧
      w.grownBy w' (some r) ∧ w'.heap.size = w.heap.size ∧ (Instr.entry (.pointer (some ⟨r, 0, none⟩))).run P w' = .ok (.tuple #[kv x, vv y]) w' := by
  have hbr := h.lt
  obtain ⟨es, clock, seen, vis, hb, hr, hbn, hbl, hd, hent, hcov, hks, hseen, hvis, hoks⟩ := h
  rcases run_next_at (P := P) w ty r b clock clock seen es clock hr hb hbl (Nat.le_refl _) with ⟨h0, hrun⟩ | ⟨e, he, w1, hw1, hrun⟩
  · refine .inl ⟨fun s y hos hs => ?_, hrun⟩
    obtain ⟨e, he, hk⟩ := hcov s y hs
    have hall := all_seen es seen h0 e he
    have hmem : e.born ∈ seen.toList := by simpa using hall
    rw [hseen] at hmem
    obtain ⟨e', he', hbe⟩ := List.mem_map.1 hmem
    have hee : e' = e := by
      have hi := List.mem_iff_getElem.1 (hvis e' he'); have hj := List.mem_iff_getElem.1 he
      obtain ⟨i, hil, hi⟩ := hi; obtain ⟨j, hjl, hj⟩ := hj
      have hij : i = j := by
        have hp := List.pairwise_iff_getElem.1 (show (es.toList.map (·.born)).Pairwise (· ≠ ·) from hbn)
        rcases Nat.lt_trichotomy i j with hlt | heq | hlt
        · exact absurd (by rw [List.getElem_map, List.getElem_map, hi, hj, hbe]) (hp i j (by simpa using hil) (by simpa using hjl) hlt)
        · exact heq
        · exact absurd (by rw [List.getElem_map, List.getElem_map, hi, hj, hbe]) (hp j i (by simpa using hjl) (by simpa using hil) hlt)
      subst hij
      rw [← hi, ← hj]
    subst hee
    have : kv s ∈ vis.map (·.key) := by rw [← hk]; exact List.mem_map_of_mem he'
    rw [← hks] at this
    obtain ⟨s', hs', e⟩ := List.mem_map.1 this
    have := hinj s' s (hoks s' hs') hos e
    rw [← this]; exact hs'
  · obtain ⟨hes, hns⟩ := mem_left he
    obtain ⟨x, y, k1, k2, k3, k4⟩ := hent e hes
    have hw1h : w1.heap = w.heap := by rcases hw1 with rfl | rfl <;> rfl
    have hr1 : w1.heap[r]? = some (.mapIter (some b) clock seen clock) := by rw [hw1h]; exact hr
    have hb2 : (setBlock w1 r (.mapIter (some b) clock (seen.push e.born) clock)).heap[b]? = some (.map es clock) := by
      rw [setB_ne (fun e => hbr.2.2 e)]; rw [hw1h]; exact hb
    have hr2 : (setBlock w1 r (.mapIter (some b) clock (seen.push e.born) clock)).heap[r]? = some (.mapIter (some b) clock (seen.push e.born) clock) := setB_at hr1
    refine .inr ⟨x, y, _, k4, ?_, k2, by rw [k1, k3] at hrun; exact hrun, ⟨es, clock, seen.push e.born, vis ++ [e], hb2, hr2, hbn, hbl, hd, hent, hcov, by simp [hks, k1], by simp [hseen], ?_, ?_⟩, ?_, ?_, ?_, ?_⟩
    · intro hx
      have : kv x ∈ vis.map (·.key) := by rw [← hks]; exact List.mem_map_of_mem hx
      obtain ⟨e', he', hk'⟩ := List.mem_map.1 this
      have hee : e' = e := by
        obtain ⟨i, hil, hi⟩ := List.mem_iff_getElem.1 (hvis e' he'); obtain ⟨j, hjl, hj⟩ := List.mem_iff_getElem.1 hes
        rcases Nat.lt_trichotomy i j with hlt | heq | hlt
        · exact absurd (by rw [hi, hj, hk', k1]) (List.pairwise_iff_getElem.1 hd i j hil hjl hlt)
        · subst heq; rw [← hi, ← hj]
        · exact absurd (by rw [hi, hj, hk', k1]) (List.pairwise_iff_getElem.1 hd j i hjl hil hlt)
      subst hee
      have hc : seen.contains e'.born = true := by
        have : e'.born ∈ seen.toList := by rw [hseen]; exact List.mem_map_of_mem he'
        simpa using this
      rw [hc] at hns; cases hns
    · intro e' he'
      rcases List.mem_append.1 he' with he' | he'
      · exact hvis e' he'
      · rw [List.mem_singleton.1 he']; exact hes
    · intro s hs
      rcases List.mem_append.1 hs with hs | hs
      · exact hoks s hs
      · rw [List.mem_singleton.1 hs]; exact k2
    · unfold rgLe
      rw [hb2, hr2, hb, hr]
      exact left_shrinks es seen e he
    · refine ⟨?_, ?_, ?_, ?_, ?_⟩
      all_goals first
        | (rcases hw1 with rfl | rfl <;> rfl)
        | skip
      · rw [show (setBlock w1 r (.mapIter (some b) clock (seen.push e.born) clock)).heap.size = w1.heap.size by simp [setBlock], hw1h]; exact Nat.le_refl _
      · intro i hi hne
        rw [setB_ne (fun e => hne (by rw [e])), hw1h]
    · rw [show (setBlock w1 r (.mapIter (some b) clock (seen.push e.born) clock)).heap.size = w1.heap.size by simp [setBlock], hw1h]
    · have := run_entry_at (P := P) (setBlock w1 r (.mapIter (some b) clock (seen.push e.born) clock)) r b clock seen es clock e hr2 hb2 hes hbn
      rw [k1, k3] at this
      exact this
end
end Go.Proofs.YtjponanfpdmeoaaGreatDoor
