/-
  Words, plain lemmas and walks, merged: Hb, Tb, Tc, Te, Sc, Sd, Se, Sf, Tf, Tg.
-/
import Derived.Test.YtocbhlohcikapaaGreatDoorZua
import Derived.Shelf.Strings.BuilderF
import Derived.Test.YtocbhlohcikapaaGreatDoorZui
import Derived.Test.YtocbhlohcikapaaGreatDoorZuc
import Derived.Shelf.Strings.OnBuilder
import Derived.Test.YtocbhlohcikapaaGreatDoorZud
import Derived.Test.YtocbhlohcikapaaGreatDoorZuh
import Derived.Deep.RegionWith
set_option linter.unusedVariables false
set_option linter.unusedSimpArgs false
namespace Go.Proofs.YtocbhlohcikapaaGreatDoor
section
open Go.RowKit
def KT (w w' : World) : Prop := ∀ (i : Nat) (cur : Array Value) (fz : Nat × Nat), w.heap[i]? = some (Obj.cells cur 44 fz) → w'.heap[i]? = some (Obj.cells cur 44 fz)
theorem KT.refl (w : World) : KT w w := fun _ _ _ h => h
theorem KT.trans {a b c : World} (h : KT a b) (k : KT b c) : KT a c := fun i cur fz e => k i cur fz (h i cur fz e)
theorem KT.below {w w' : World} (h : Below w.heap.size w w') : KT w w' := fun i _ _ e => (h.block i (Array.getElem?_eq_some_iff.1 e).1).trans e
theorem KT.set {w : World} {b : Nat} {cur : Array Value} {fz : Nat × Nat} (hb : w.heap[b]? = some (.cells cur 211 fz)) (k : Nat) (v : Value) : KT w (w.setCell ⟨b, k, none⟩ v) := fun i c z e => by
 have hne : i ≠ b := by rintro rfl; rw [hb] at e; cases e
 exact (Below.heap_setCell _ _ _ _ hne).trans e
theorem KT.vrow {w w' : World} {B : Nat} {l : List Value} (h : KT w w') (hr : VRow w B 44 l) : VRow w' B 44 l := h _ _ _ hr
theorem sizeBuilder : (Tryz.prog.info? 211).map (·.size) = some 2 := by kernel_rfl
theorem liesBuilder : liesAt Tryz.prog Tryz.prog.depth 211 (2 / Tryz.prog.cellsOf 211) 0 211 1 = true := by kernel_rfl
theorem infoByte : (Tryz.prog.info? 5).map (fun i => (i.zero, i.size, i.bytes)) = some (some (.int .u8 0), 1, 1) := by kernel_rfl
set_option maxHeartbeats 1000000 in
set_option maxRecDepth 100000 in
theorem bcopy_used (b : Nat) (w : World) (h0 : w.cell? ⟨b, 0, none⟩ = some (.pointer (some ⟨b, 0, none⟩))) :
  Calls Tryz.prog 227 #[.pointer (some ⟨b, 0, none⟩)] w fun e w' => e = .returned (.tuple #[]) ∧ w' = w := by
 obtain ⟨j, hj, _⟩ := Option.map_eq_some_iff.1 sizeBuilder
 go_enter Tryz.func227, Tryz.ntmps227
 go_wp2
 rw [Lib.run_neq_ptr_same w _ Tryz.underlying209 hj]
 go_wp2
 go_end0
 exact ⟨rfl, rfl⟩
set_option maxHeartbeats 1000000 in
set_option maxRecDepth 100000 in
theorem bcopy_fresh (b : Nat) (w : World) (h0 : w.cell? ⟨b, 0, none⟩ = some (.pointer none)) (hsh : w.shape? b = some (211, 2)) (hfz : w.frozen? ⟨b, 0, none⟩ = false) :
  Calls Tryz.prog 227 #[.pointer (some ⟨b, 0, none⟩)] w fun e w' => e = .returned (.tuple #[]) ∧ w' = w.setCell ⟨b, 0, none⟩ (.pointer (some ⟨b, 0, none⟩)) := by
 obtain ⟨j, hj, hjs⟩ := Option.map_eq_some_iff.1 sizeBuilder
 go_enter Tryz.func227, Tryz.ntmps227
 go_wp2
 rw [Lib.run_to_unsafe w ⟨b, 0, none⟩ Tryz.underlying209 Tryz.underlying249 hj (by rw [hjs]; decide) hsh (Nat.zero_lt_succ 1)]
 simp only [Result.andThen]
 rw [Oper.upon_value]
 go_wp2
 rw [run_callFunc_extern Tryz.func247 (by kernel_rfl) (by kernel_rfl) (by kernel_rfl) (e := Extern.AbiNoEscape.same) (by kernel_rfl)]
 rw [Lib.run_noEscape]
 simp only [Result.andThen]
 rw [Oper.upon_value]
 go_wp2
 rw [Lib.run_from_unsafe w ⟨b, 0, none⟩ Tryz.underlying249 Tryz.underlying209 hj hsh liesBuilder]
 simp only [Result.andThen]
 rw [Oper.upon_value]
 go_wp2
 go_end0
 exact ⟨rfl, rfl⟩
theorem bcopy_any (B b : Nat) (bs : List Value) (w : World) (h : Lib.IsBuilderF 211 5 B b bs w) :
  Calls Tryz.prog 227 #[.pointer (some ⟨b, 0, none⟩)] w fun e w' => e = .returned (.tuple #[]) ∧ (Lib.BuilderAtF 211 5 B b (.pointer (some ⟨b, 0, none⟩)) bs w' ∧ Below B w w' ∧ KT w w') := by
 rcases h with h | h
 ·refine (bcopy_fresh b w h.cell0 h.shape h.frozen0).mono ?_
  rintro e w' ⟨rfl, rfl⟩
  obtain ⟨v, hbk, _⟩ := h.2
  exact ⟨rfl, h.used _, (Below.refl B w).setCell (p := ⟨b, 0, none⟩) h.1 _, KT.set hbk 0 _⟩
 ·refine (bcopy_used b w h.cell0).mono ?_
  rintro e w' ⟨rfl, rfl⟩
  exact ⟨rfl, h, Below.refl B _, KT.refl _⟩
set_option maxHeartbeats 2000000 in
set_option maxRecDepth 100000 in
theorem bwrite_any (B b : Nat) (bs : List Value) (s : ByteArray) (w : World) (h : Lib.IsBuilderF 211 5 B b bs w) (hlen : bs.length + s.size ≤ 140737488355328) (hBw : B ≤ w.heap.size) :
  Calls Tryz.prog 201 #[.pointer (some ⟨b, 0, none⟩), .string s] w fun e w' => e = .returned (.tuple #[.int .i64 s.size, .nilIface]) ∧ (Lib.BuilderAtF 211 5 B b (.pointer (some ⟨b, 0, none⟩)) (bs ++ Lib.strCells s) w' ∧ Below B w w' ∧ KT w w') := by
 obtain ⟨i0, hi, hz0, hz1, hz2⟩ := info_parts infoByte
 go_enter Tryz.func201, Tryz.ntmps201
 go_wp2_with (go_at_call 227; refine (bcopy_any B b bs _ h).mono ?_)
 rintro e w1 ⟨rfl, h1, hb1, kt1⟩
 obtain ⟨hB, v, hbk, hown, hne⟩ := h1
 have c0 : w1.cell? ⟨b, 0, none⟩ = some (.pointer (some ⟨b, 0, none⟩)) := by rw [Lib.cell_of_heap hbk]; rfl
 have c1 : w1.cell? ⟨b, 1, none⟩ = some v := by rw [Lib.cell_of_heap hbk]; rfl
 go_wp2_with (at_builtin; refine Lib.wpList_append_own_stringF _ rfl _ _ 56 9 rfl B 5 i0 Tryz.underlying56 Tryz.underlying9 hi hz0 hz1 hz2 _ _ _ rfl hown s rfl ?c3 ?c4 ?c5 ?_)
 case c3 => unfold maxLen; omega
 case c4 => omega
 case c5 => have := hb1.size; omega
 intro v' w2 hown' hgrow _
 have hlt : b < w1.heap.size := by
  rcases Nat.lt_or_ge b w1.heap.size with h' | h'
  ·exact h'
  ·simp [Array.getElem?_eq_none h'] at hbk
 have hb2 : w2.heap[b]? = some (.cells #[.pointer (some ⟨b, 0, none⟩), v] 211 (0, 0)) := by
  rw [hgrow.block b hlt (fun e => hne e.symm)]
  exact hbk
 have d0 : w2.cell? ⟨b, 0, none⟩ = some (.pointer (some ⟨b, 0, none⟩)) := by rw [Lib.cell_of_heap hb2]; rfl
 have d1 : w2.cell? ⟨b, 1, none⟩ = some v := by rw [Lib.cell_of_heap hb2]; rfl
 have f1 : w2.frozen? ⟨b, 1, none⟩ = false := Lib.frozen_of_heap hb2 1
 obtain ⟨ao, n', cap, rfl⟩ : ∃ ao n' cap, v' = .slice ao n' cap := by
  rcases hown'.2 with ⟨hv, _⟩ | ⟨g, cap, cur, fz, hv, _⟩
  ·exact ⟨_, _, _, hv⟩
  ·exact ⟨_, _, _, hv⟩
 have kt2 : KT w1 w2 := fun i cur fz e => by
  refine (hgrow.block i (Array.getElem?_eq_some_iff.1 e).1 (fun e' => ?_)).trans e
  rcases hown.2 with ⟨rfl, _⟩ | ⟨g, cap, cu, f, rfl, _, hg, _⟩
  ·simp [Value.ownBlock] at e'
  ·obtain rfl : i = g := by simpa [Value.ownBlock] using e'
   rw [hg] at e; cases e
 have kt3 := (kt1.trans kt2).trans (KT.set hb2 1 (.slice ao n' cap))
 go_wp2
 go_ret2
 refine ⟨rfl, ?_, ?_, kt3⟩
 ·exact Lib.BuilderAtF.put (T := 211) (e := 5) hB hb2 (bs' := bs ++ Lib.strCells s) (by simpa [Lib.strCells_length] using hown') (by decide)
 ·exact (hb1.grown hgrow (by have := hb1.size; omega) (fun k hk => (hown.lt k hk).1)).setCell (p := ⟨b, 1, none⟩) hB _
end
section
open Go.RowKit Go.Sort Go.Shelf Go.Lib
theorem bcT_app (o : List UInt8) (s : ByteArray) : Lib.byteCells o ++ Lib.strCells s = Lib.byteCells (o ++ s.data.toList) := by simp [Lib.byteCells, Lib.strCells]
def ditB (v : Int) : ByteArray := ⟨(Lib.decDigits v.toNat).toArray⟩
theorem dit_any (v : Int) (h : 0 ≤ v ∧ v < 100) (w : World) : Calls Tryz.prog 202 #[.int .i64 v] w fun e w' => e = .returned (.string (ditB v)) ∧ w = w' := by
 obtain ⟨i, rfl⟩ : ∃ i : Nat, v = (i : Int) := ⟨v.toNat, by omega⟩
 exact (Tryz.strconv_Itoa_small i (by omega) w).mono (fun e w' h => ⟨h.1, h.2.symm⟩)
set_option maxRecDepth 100000 in
set_option maxHeartbeats 1000000 in
theorem skey_any (st : List Int) (q : Option Addr) (d : Nat) (w : World) (hst : Sl w (Value.int .i64) q st) (hb : ∀ x ∈ st, 0 ≤ x ∧ x < 100) (hl : st.length ≤ 1000) :
  Calls Tryz.prog 166 #[.slice q st.length d] w fun e w' => e = .returned (.string ⟨(keyL st).toArray⟩) ∧ RowKit.Below w.heap.size w w' := by
 obtain ⟨w0, hw0⟩ : ∃ w0, w0 = w.alloc (.cells #[.pointer none, .slice none 0 0] 211) := ⟨_, rfl⟩
 have hbd : Lib.IsBuilderF 211 5 w.heap.size w.heap.size (Lib.byteCells []) w0 := by
  subst hw0
  exact Lib.IsBuilderF.of (.inl ⟨Nat.le_refl _, .slice none 0 0, World.alloc_heap_new _ _, World.ownsRow_nil _ _ _ _, by simp [Value.ownBlock]⟩)
 have hB0 : RowKit.Below w.heap.size w w0 := by subst hw0; exact (RowKit.Below.refl _ _).alloc (Nat.le_refl _) _
 have HST := hidI (fun W (hW : RowKit.Below w.heap.size w W) => hst.below hW)
 have HB := hidI hb
 have HLN := hidI (fun k => keyL_len (l := st.take k) (fun x hx => hb x (List.mem_of_mem_take hx)))
 clear hst hb
 go_enter Tryz.func166, Tryz.ntmps166
 go_upto_region 2 with fail
 rw [← hw0]
 clear hw0
 go_wp2
 go_loopw [8] (fun kv wr => ∃ k : Nat, k ≤ st.length ∧ kv = .int .i64 k ∧ Lib.IsBuilderF 211 5 w.heap.size w.heap.size (Lib.byteCells (keyL (st.take k))) wr ∧ RowKit.Below w.heap.size w wr) (fun kv _ => st.length - (RowKit.intOf kv).toNat)
 case atStart => exact ⟨0, by omega, rfl, hbd, hB0⟩
 case round =>
  clear hbd hB0
  obtain ⟨k, hk, rfl, hbd, hB⟩ := hrel
  have hbz := hB.size
  have HBD := hidI hbd
  clear hbd
  by_cases hlt : k < st.length
  ·have hltI : (k : Int) < (st.length : Int) := by omega
   obtain ⟨b1, o1, rfl, hb1, hc1⟩ := (HST.out wr hB).get k hlt
   have e0 := hc1 k hlt
   have h100 := HB.out _ (List.getElem_mem hlt)
   have HK : Hid (keyL (st.take (k + 1)) = keyL (st.take k) ++ (Lib.decDigits (st[k]).toNat ++ [32])) := by rw [Hid, List.take_succ_eq_append_getElem hlt, keyL_snoc]
   have hln := HLN.out k
   have htk : (st.take k).length = k := by rw [List.length_take]; omega
   rw [htk] at hln
   have HDS := hidI (dit_small st[k].toNat (by omega))
   generalize st[k] = x at *
   generalize st.take k = pre at *
   have hsz2 : (ditB x).size ≤ 2 := by have := HDS.out; show (Lib.decDigits x.toNat).toArray.size ≤ 2; simpa using this
   clear hc1 htk
   have hkz : (⟨#[32]⟩ : ByteArray).size = 1 := rfl
   go_wp2_with fail
   refine (dit_any x h100 _).mono ?_
   rintro e w' ⟨rfl, hw⟩
   subst hw
   go_wp2_with fail
   refine (bwrite_any w.heap.size w.heap.size (Lib.byteCells (keyL pre)) (ditB x ++ (⟨#[32]⟩ : ByteArray)) wr HBD.out ?_ hbz).mono ?_
   ·simp [Lib.byteCells]; omega
   rintro e w2 ⟨rfl, hA, hB2, kt⟩
   go_wp2
   go_roundw
   case rel =>
    refine ⟨k + 1, by omega, by go_num, ?_, hB.trans hB2⟩
    rw [HK.out]
    have : Lib.byteCells (keyL pre) ++ Lib.strCells (ditB x ++ (⟨#[32]⟩ : ByteArray)) = Lib.byteCells (keyL pre ++ (Lib.decDigits x.toNat ++ [32])) := by rw [bcT_app]; simp [ditB]
    rw [← this]
    exact .inr hA
   case measure => simp [RowKit.intOf]; omega
  ·obtain rfl : st.length = k := by omega
   have hltI : ¬ (st.length : Int) < (st.length : Int) := by omega
   rw [List.take_length] at HBD
   go_wp2_with (go_at_call 203; refine (Tryz.Builder_String_any_f w.heap.size w.heap.size _ wr HBD.out hbz).mono ?_; rintro e w4 ⟨rfl, hbd4, hB4⟩)
   go_ret
   exact ⟨rfl, hB.trans hB4⟩
end
section
open Go.RowKit Go.Sort Go.Shelf Go.Lib
def okK (l : List Int) : Prop := (∀ x ∈ l, 0 ≤ x ∧ x < 100) ∧ l.length ≤ 1000
def kK (l : List Int) : Value := .string ⟨(keyL l).toArray⟩
theorem keyK : KeyBy Tryz.prog 9 kK okK where
 law := Maps.string_keyed Tryz.underlying9
 reads := fun a ha => ⟨.string (keyL a), by
  have h1 := keyL_len ha.1
  have h2 := ha.2
  have h3 : (⟨(keyL a).toArray⟩ : ByteArray).size ≤ maxLen := by show (keyL a).toArray.size ≤ maxLen; rw [List.size_toArray]; unfold maxLen; omega
  simp [keyOf, mapKey, kK, Tryz.underlying9]; exact h3⟩
 inj := fun a b ha hb h => keyL_inj ha.1 hb.1 (by simpa [kK] using h)
theorem zeroN (w : World) : (zeroValue 3).run Tryz.prog w = .ok (.int .i64 0) w := by kernel_rfl
def numF (S : List (List Int)) (l : List Int) : Option Int := if l ∈ S then some ((S.idxOf l : Nat) : Int) else none
theorem numF_snoc {S : List (List Int)} {x : List Int} (h : x ∉ S) (a : List Int) : mset (numF S) x (S.length : Int) a = numF (S ++ [x]) a := by
 unfold mset numF
 by_cases e : a = x
 ·subst e
  rw [if_pos rfl, if_pos (by simp), List.idxOf_append, if_neg h]
  simp
 ·rw [if_neg e]
  by_cases hm : a ∈ S
  ·rw [if_pos hm, if_pos (by simp [hm]), List.idxOf_append, if_pos hm]
  ·rw [if_neg hm, if_neg (by simp [hm, e])]
theorem num_hit {w : World} {b : Nat} {S : List (List Int)} (h : Mp kK okK (Value.int .i64) w b (numF S)) {l : List Int} (hl : okK l) (hm : l ∈ S) :
  (Instr.lookup 174 (.map (some b)) (kK l) true).run Tryz.prog w = .ok (.tuple #[.int .i64 (S.idxOf l : Nat), .bool true]) w := by
 have := h.look keyK Tryz.underlying174 (zeroN w) l hl true
 unfold numF at this; rw [if_pos hm] at this; exact this
theorem num_miss {w : World} {b : Nat} {S : List (List Int)} (h : Mp kK okK (Value.int .i64) w b (numF S)) {l : List Int} (hl : okK l) (hm : l ∉ S) :
  (Instr.lookup 174 (.map (some b)) (kK l) true).run Tryz.prog w = .ok (.tuple #[.int .i64 0, .bool false]) w := by
 have := h.look keyK Tryz.underlying174 (zeroN w) l hl true
 unfold numF at this; rw [if_neg hm] at this; exact this
def KX1 (t : TypeId) (b : Nat) (W W' : World) : Prop := ∀ (i : Nat) (cur : Array Value) (fz : Nat × Nat), i ≠ b → W.heap[i]? = some (.cells cur t fz) → W'.heap[i]? = some (.cells cur t fz)
def KX0 (t : TypeId) (W W' : World) : Prop := ∀ (i : Nat) (cur : Array Value) (fz : Nat × Nat), W.heap[i]? = some (.cells cur t fz) → W'.heap[i]? = some (.cells cur t fz)
section
variable {t t' : TypeId} {b : Nat} {X Y Z : World}
theorem KX0.refl (t : TypeId) (X : World) : KX0 t X X := fun _ _ _ h => h
theorem KX0.trans (h : KX0 t X Y) (k : KX0 t Y Z) : KX0 t X Z := fun i c f e => k i c f (h i c f e)
theorem KX1.trans (h : KX1 t b X Y) (k : KX1 t b Y Z) : KX1 t b X Z := fun i c f hn e => k i c f hn (h i c f hn e)
theorem KX0.one (h : KX0 t X Y) (b : Nat) : KX1 t b X Y := fun i c f _ e => h i c f e
theorem KX0.below (h : RowKit.Below X.heap.size X Y) : KX0 t X Y := fun i _ _ e => (h.block i (Array.getElem?_eq_some_iff.1 e).1).trans e
theorem KX0.turn (h : X.mapTurned Y b) : KX0 t X Y := fun i c f e => by
 obtain ⟨es, clock, es', clock', hb, rfl⟩ := h
 by_cases hi : i = b
 ·subst hi; rw [hb] at e; cases e
 ·exact (ChangeMaps.heap_setBlock_other hb _ hi).trans e
theorem KX0.grown {r : Option Nat} (h : X.grownBy Y r) (hr : ∀ k, r = some k → ∃ cur fz, X.heap[k]? = some (.cells cur t' fz)) (hne : t ≠ t') : KX0 t X Y := fun i c f e =>
 (h.block i (Array.getElem?_eq_some_iff.1 e).1 (fun er => by
  obtain ⟨c', f', e'⟩ := hr i er.symm
  rw [e] at e'; cases e'; exact hne rfl)).trans e
theorem KX0.set {cur : Array Value} {fz : Nat × Nat} (hb : X.heap[b]? = some (.cells cur t' fz)) (k : Nat) (v : Value) (hne : t ≠ t') : KX0 t X (X.setCell ⟨b, k, none⟩ v) := fun i c z e => by
 have hn : i ≠ b := by rintro rfl; rw [hb] at e; cases e; exact hne rfl
 exact (Below.heap_setCell _ _ _ _ hn).trans e
theorem KX1.set (t : TypeId) (b : Nat) (X : World) (k : Nat) (v : Value) : KX1 t b X (X.setCell ⟨b, k, none⟩ v) := fun _ _ _ hn e => (Below.heap_setCell _ _ _ _ hn).trans e
theorem KX0.vrow {l : List Value} (h : KX0 t X Y) (r : VRow X b t l) : VRow Y b t l := h _ _ _ r
theorem KX1.vrow {l : List Value} {i : Nat} (h : KX1 t b X Y) (r : VRow X i t l) (hn : i ≠ b) : VRow Y i t l := h _ _ _ hn r
theorem KX0.own {B n s : Nat} {v : Value} {xs : List Value} (h : KX0 t X Y) (ho : X.ownsRow B t s v n xs) : Y.ownsRow B t s v n xs := by
 refine ⟨ho.1, ho.2.imp id ?_⟩
 rintro ⟨g, cap, cur, e1, e2, e3, e4⟩
 exact ⟨g, cap, cur, e1, e2, h _ _ _ e3, e4⟩
theorem own_typed {B n s : Nat} {v : Value} {xs : List Value} (ho : X.ownsRow B t s v n xs) : ∀ k, v.ownBlock = some k → ∃ cur fz, X.heap[k]? = some (.cells cur t fz) := by
 intro k hk
 rcases ho.2 with ⟨rfl, _⟩ | ⟨g, cap, cur, rfl, _, hg, _⟩
 ·cases hk
 ·cases hk; exact ⟨_, _, hg⟩
end
def KXm (W W' : World) : Prop := ∀ (i : Nat) (es : Array MapEntry) (cl : Nat), W.heap[i]? = some (.map es cl) → W'.heap[i]? = some (.map es cl)
section
variable {t' : TypeId} {b : Nat} {X Y Z : World}
theorem KXm.trans (h : KXm X Y) (k : KXm Y Z) : KXm X Z := fun i c f e => k i c f (h i c f e)
theorem KXm.below (h : RowKit.Below X.heap.size X Y) : KXm X Y := fun i _ _ e => (h.block i (Array.getElem?_eq_some_iff.1 e).1).trans e
theorem KXm.grown {r : Option Nat} (h : X.grownBy Y r) (hr : ∀ k, r = some k → ∃ cur fz, X.heap[k]? = some (.cells cur t' fz)) : KXm X Y := fun i c f e =>
 (h.block i (Array.getElem?_eq_some_iff.1 e).1 (fun er => by
  obtain ⟨c', f', e'⟩ := hr i er.symm
  rw [e] at e'; cases e')).trans e
theorem KXm.set {cur : Array Value} {fz : Nat × Nat} (hb : X.heap[b]? = some (.cells cur t' fz)) (k : Nat) (v : Value) : KXm X (X.setCell ⟨b, k, none⟩ v) := fun i c z e => by
 have hn : i ≠ b := by rintro rfl; rw [hb] at e; cases e
 exact (Below.heap_setCell _ _ _ _ hn).trans e
end
def PN (bn mb : Nat) (S : List (List Int)) (W : World) : Prop := VRow W bn 174 [.map (some mb)] ∧ Mp kK okK (Value.int .i64) W mb (numF S)
def PS (bw bs : Nat) (S : List (List Int)) (W : World) : Prop :=
 ∃ ps cs Vs, VRow W bs 47 [.slice ps S.length cs] ∧ W.ownsRow bw 30 1 (.slice ps S.length cs) S.length Vs ∧
  ∀ i (h : i < S.length), ∃ v, Vs[i]? = some v ∧ (∃ p c, v = .slice p S[i].length c) ∧ W.ownsRow bw 3 1 v S[i].length (S[i].map (Value.int .i64))
def PO (bw bo : Nat) (q : Int) (E : List Ed) (W : World) : Prop :=
 ∃ pe ce, VRow W bo 24 [.int .i64 q, .int .i64 0, .slice pe E.length ce] ∧ W.ownsRow bw 44 3 (.slice pe E.length ce) E.length (cat E)
section
variable {bw bn bs bo mb : Nat} {S : List (List Int)} {E : List Ed} {q : Int} {W W' : World}
theorem PN.keep (h : PN bn mb S W) (k : KX0 174 W W') (hm : KXm W W') : PN bn mb S W' := ⟨k.vrow h.1, h.2.same (by
 obtain ⟨es, cl, hb, _⟩ := h.2
 rw [hb]; exact hm _ _ _ hb)⟩
theorem PS.keep (h : PS bw bs S W) (k1 : KX0 47 W W') (k2 : KX0 30 W W') (k3 : KX0 3 W W') : PS bw bs S W' := by
 obtain ⟨ps, cs, Vs, h1, h2, h3⟩ := h
 refine ⟨ps, cs, Vs, k1.vrow h1, k2.own h2, fun i hi => ?_⟩
 obtain ⟨v, a, b, c⟩ := h3 i hi
 exact ⟨v, a, b, k3.own c⟩
theorem PO.keep (h : PO bw bo q E W) (k1 : KX0 24 W W') (k2 : KX0 44 W W') : PO bw bo q E W' := by
 obtain ⟨pe, ce, h1, h2⟩ := h
 exact ⟨pe, ce, k1.vrow h1, k2.own h2⟩
structure Bx (bw bn bs bo mb : Nat) (q : Int) (st : Sst) (W : World) : Prop where
 num : PN bn mb st.1 W
 sets : PS bw bs st.1 W
 out : PO bw bo q st.2 W
 ok : ∀ s ∈ st.1, okK s
theorem Bx.below {st : Sst} (h : Bx bw bn bs bo mb q st W) (hB : RowKit.Below W.heap.size W W') : Bx bw bn bs bo mb q st W' :=
 ⟨h.num.keep (KX0.below hB) (KXm.below hB), h.sets.keep (KX0.below hB) (KX0.below hB) (KX0.below hB), h.out.keep (KX0.below hB) (KX0.below hB), h.ok⟩
end
section
variable {bw bn bs bo mb : Nat} {q : Int} {st : Sst} {W : World}
theorem num_store {S : List (List Int)} (h : PN bn mb S W) {x : List Int} (hx : okK x) (hn : x ∉ S) :
  ∃ wm, (Instr.mapUpdate 174 (.map (some mb)) (kK x) (.int .i64 (S.length : Int))).run Tryz.prog W = .ok () wm ∧ PN bn mb (S ++ [x]) wm ∧ W.mapTurned wm mb := by
 obtain ⟨wm, h1, h2, h3⟩ := h.2.store keyK Tryz.underlying174 x hx (S.length : Int)
 exact ⟨wm, h1, ⟨(KX0.turn h3).vrow h.1, h2.congr (numF_snoc hn)⟩, h3⟩
theorem below_al (w : World) (o : Obj) : RowKit.Below w.heap.size w (w.alloc o) := (RowKit.Below.refl _ _).alloc (Nat.le_refl _) o
theorem own_shape1 {w : World} {B e n : Nat} {v : Value} {xs : List Value} (h : w.ownsRow B e 1 v n xs) : ∃ p c, v = .slice p n c := by
 rcases h.2 with ⟨rfl, rfl⟩ | ⟨g, cap, cur, rfl, _⟩
 ·exact ⟨none, 0, rfl⟩
 ·exact ⟨_, cap, rfl⟩
theorem own_shape3 {w : World} {B e n : Nat} {v : Value} {xs : List Value} (h : w.ownsRow B e 3 v n xs) : ∃ p c, v = .slice p n c := by
 rcases h.2 with ⟨rfl, rfl⟩ | ⟨g, cap, cur, rfl, _⟩
 ·exact ⟨none, 0, rfl⟩
 ·exact ⟨_, cap, rfl⟩
theorem sets_push {S : List (List Int)} {ps : Option Addr} {cs : Nat} {Vs : List Value} (hp : VRow W bs 47 [.slice ps S.length cs]) (ho : W.ownsRow bw 30 1 (.slice ps S.length cs) S.length Vs)
  (hel : ∀ i (h : i < S.length), ∃ v, Vs[i]? = some v ∧ (∃ p c, v = .slice p S[i].length c) ∧ W.ownsRow bw 3 1 v S[i].length (S[i].map (Value.int .i64)))
  {x : List Int} {pn : Option Addr} {cn : Nat} (hx : W.ownsRow bw 3 1 (.slice pn x.length cn) x.length (x.map (Value.int .i64))) {v' : Value} {w9 : World}
  (h9 : w9.ownsRow bw 30 1 v' (S.length + 1) (Vs ++ [.slice pn x.length cn])) (hg : (W.alloc (.cells #[.slice pn x.length cn] 30)).grownBy w9 (Value.slice ps S.length cs).ownBlock) (hbs : bw ≤ bs) (hW : bw ≤ W.heap.size) :
  w9.frozen? ⟨bs, 0, none⟩ = false ∧ (∃ u, w9.cell? ⟨bs, 0, none⟩ = some u) ∧ RowKit.Below bw W (w9.setCell ⟨bs, 0, none⟩ v') ∧ PS bw bs (S ++ [x]) (w9.setCell ⟨bs, 0, none⟩ v') ∧
   (∀ t, t ≠ 30 → t ≠ 47 → KX0 t W (w9.setCell ⟨bs, 0, none⟩ v')) ∧ KXm W (w9.setCell ⟨bs, 0, none⟩ v') := by
 have hA := below_al W (.cells #[.slice pn x.length cn] 30)
 have hty := own_typed (ho.alloc (.cells #[.slice pn x.length cn] 30))
 have k9 : ∀ t, t ≠ 30 → KX0 t W w9 := fun t ht => (KX0.below hA).trans (KX0.grown hg hty ht)
 have r9 : VRow w9 bs 47 [.slice ps S.length cs] := (k9 47 (by decide)).vrow hp
 have r10 := r9.set (i := 0) v'
 have kk : ∀ t, t ≠ 30 → t ≠ 47 → KX0 t W (w9.setCell ⟨bs, 0, none⟩ v') := fun t h1 h2 => (k9 t h1).trans (KX0.set r9 0 v' h2)
 obtain ⟨p', c', rfl⟩ := own_shape1 h9
 have hB9 : RowKit.Below bw W w9 := (hA.mono hW).grown hg (by rw [World.size_alloc]; omega) (fun j e => (ho.lt j e).1)
 refine ⟨r9.frozen 0, ⟨_, r9.at 0 rfl⟩, hB9.setCell hbs _, ⟨p', c', Vs ++ [.slice pn x.length cn], ?_, ?_, fun i hi => ?_⟩, kk, ((KXm.below hA).trans (KXm.grown hg hty)).trans (KXm.set r9 0 _)⟩
 ·rw [List.length_append, List.length_singleton]; exact r10
 ·rw [List.length_append, List.length_singleton]; exact (KX0.set (t := 30) r9 0 _ (by decide)).own h9
 ·have hl : Vs.length = S.length := by have := ho.1; omega
  rw [List.length_append, List.length_singleton] at hi
  by_cases hlt : i < S.length
  ·obtain ⟨v, e1, e2, e3⟩ := hel i hlt
   refine ⟨v, ?_, ?_, ?_⟩
   ·rw [List.getElem?_append_left (by omega)]; exact e1
   ·rw [List.getElem_append_left hlt]; exact e2
   ·rw [List.getElem_append_left hlt]; exact (kk _ (by decide) (by decide)).own e3
  ·obtain rfl : i = S.length := by omega
   refine ⟨.slice pn x.length cn, ?_, ?_, ?_⟩
   ·rw [List.getElem?_append_right (by omega), hl, Nat.sub_self]; rfl
   ·rw [List.getElem_append_right (Nat.le_refl _)]; simp only [Nat.sub_self, List.getElem_cons_zero]; exact ⟨_, _, rfl⟩
   ·rw [List.getElem_append_right (Nat.le_refl _)]; simp only [Nat.sub_self, List.getElem_cons_zero]; exact (kk _ (by decide) (by decide)).own hx
theorem edges_push {E : List Ed} {pe : Option Addr} {ce : Nat} (hp : VRow W bo 24 [.int .i64 q, .int .i64 0, .slice pe E.length ce]) (ho : W.ownsRow bw 44 3 (.slice pe E.length ce) E.length (cat E)) {x : Ed} {v' : Value} {w9 : World}
  (h9 : w9.ownsRow bw 44 3 v' (E.length + 1) (cat E ++ cat [x])) (hg : (W.alloc (.cells (edE x).toArray 44)).grownBy w9 (Value.slice pe E.length ce).ownBlock) (hbo : bw ≤ bo) (hW : bw ≤ W.heap.size) :
  w9.frozen? ⟨bo, 2, none⟩ = false ∧ (∃ u, w9.cell? ⟨bo, 2, none⟩ = some u) ∧ RowKit.Below bw W (w9.setCell ⟨bo, 2, none⟩ v') ∧ PO bw bo q (E ++ [x]) (w9.setCell ⟨bo, 2, none⟩ v') ∧
   (∀ t, t ≠ 44 → t ≠ 24 → KX0 t W (w9.setCell ⟨bo, 2, none⟩ v')) ∧ KX1 24 bo W (w9.setCell ⟨bo, 2, none⟩ v') ∧ KXm W (w9.setCell ⟨bo, 2, none⟩ v') := by
 have hA := below_al W (.cells (edE x).toArray 44)
 have hty := own_typed (ho.alloc (.cells (edE x).toArray 44))
 have k9 : ∀ t, t ≠ 44 → KX0 t W w9 := fun t ht => (KX0.below hA).trans (KX0.grown hg hty ht)
 have r9 : VRow w9 bo 24 [.int .i64 q, .int .i64 0, .slice pe E.length ce] := (k9 24 (by decide)).vrow hp
 have r10 := r9.set (i := 2) v'
 obtain ⟨p', c', rfl⟩ := own_shape3 h9
 have hB9 : RowKit.Below bw W w9 := (hA.mono hW).grown hg (by rw [World.size_alloc]; omega) (fun j e => (ho.lt j e).1)
 refine ⟨r9.frozen 2, ⟨_, r9.at 2 rfl⟩, hB9.setCell hbo _, ⟨p', c', ?_, ?_⟩, fun t h1 h2 => (k9 t h1).trans (KX0.set r9 2 _ h2), ((k9 _ (by decide)).one bo).trans (KX1.set _ bo _ 2 _), ((KXm.below hA).trans (KXm.grown hg hty)).trans (KXm.set r9 2 _)⟩
 ·rw [List.length_append, List.length_singleton]; exact r10
 ·rw [List.length_append, List.length_singleton, cat_app]; exact (KX0.set (t := 44) r9 2 _ (by decide)).own h9
theorem turn_below {wm : World} {w : World} (hB : RowKit.Below bw w W) (h : W.mapTurned wm mb) (hm : bw ≤ mb) (hw : bw ≤ W.heap.size) : RowKit.Below bw w wm :=
 hB.grown h.grown hw (fun j e => by cases e; exact hm)
end
end
section
open Go.RowKit Go.Sort Go.Shelf Go.Lib
def sbPut (nx : List Int) (i a : Nat) (st : Sst) : Sst :=
 if nx ∈ st.1 then (st.1, st.2 ++ [⟨(i : Int), (a : Int), ((st.1.idxOf nx : Nat) : Int)⟩]) else (st.1 ++ [nx], st.2 ++ [⟨(i : Int), (a : Int), (st.1.length : Int)⟩])
theorem sbAdd_put {G : Gr} {set : List Int} {i : Nat} {st : Sst} {a : Nat} (h : nextA G set a ≠ []) : sbAdd G set i st a = sbPut (nextA G set a) i a st := by
 unfold sbAdd sbPut; rw [if_neg h]
theorem infoTS : (Tryz.prog.info? 30).map (fun i => (i.zero, i.size, i.bytes)) = some (some (.slice none 0 0), 1, 24) := by kernel_rfl
theorem infoTE : (Tryz.prog.info? 44).map (fun i => (i.zero, i.size, i.bytes)) = some (some (.agg #[.int .i64 0, .int .i64 0, .int .i64 0]), 3, 24) := by kernel_rfl
set_option maxRecDepth 100000 in
set_option maxHeartbeats 4000000 in
theorem sbuild1_any (bw bn bs bo mb bi i a : Nat) (q : Int) (st : Sst) (nx : List Int) (pn : Option Addr) (cn : Nat) (w : World)
  (h : Bx bw bn bs bo mb q st w) (hi : VRow w bi 3 [.int .i64 i]) (hx : w.ownsRow bw 3 1 (.slice pn nx.length cn) nx.length (nx.map (Value.int .i64))) (hk : okK nx)
  (h1 : st.1.length ≤ 1000) (h2 : st.2.length ≤ 10000) (hmb : bw ≤ mb) (hbs : bw ≤ bs) (hbo : bw ≤ bo) (hw : bw ≤ w.heap.size) :
  Calls Tryz.prog 168 #[.int .i64 a, .slice pn nx.length cn, .pointer (some ⟨bn, 0, none⟩), .pointer (some ⟨bs, 0, none⟩), .pointer (some ⟨bo, 0, none⟩), .pointer (some ⟨bi, 0, none⟩)] w fun e w' =>
   e = .returned (.tuple #[]) ∧ Bx bw bn bs bo mb q (sbPut nx i a st) w' ∧ RowKit.Below bw w w' ∧ KX1 24 bo w w' ∧ KX0 3 w w' := by
 obtain ⟨i0, hi0, hz0, hz1, hz2⟩ := info_parts infoTS
 obtain ⟨j0, hj0, hy0, hy1, hy2⟩ := info_parts infoTE
 obtain ⟨S, E⟩ := st
 obtain ⟨hN, hS, hO, hok⟩ := h
 obtain ⟨ks, hks⟩ : ∃ ks : ByteArray, ks = ⟨(keyL nx).toArray⟩ := ⟨_, rfl⟩
 have hsl : Sl w (Value.int .i64) pn nx := by
  obtain ⟨p', c', e, hs⟩ := own_sl hx
  cases e; exact hs
 have HK : Hid (∀ W, RowKit.Below w.heap.size w W → Calls Tryz.prog 166 #[.slice pn nx.length cn] W fun e w' => e = .returned (.string ks) ∧ RowKit.Below W.heap.size W w') := fun W hW => by
  rw [hks]; exact skey_any nx pn cn W (hsl.below hW) hk.1 hk.2
 have HOK := hidI hok
 have HX := hidI hx; have HKK := hidI hk
 have HN := hidI hN; have HS := hidI hS; have HO := hidI hO; have HI := hidI hi
 have HPK : Hid (kK nx = .string ks) := by rw [hks]; rfl
 have c0 := hN.1.at 0 rfl
 have hbnlt := hN.1.lt
 change S.length ≤ 1000 at h1
 change E.length ≤ 10000 at h2
 clear hok hx hk hS hO hi hsl hks
 by_cases hm : nx ∈ S
 ·have HP : Hid (sbPut nx i a (S, E) = (S, E ++ [⟨(i : Int), (a : Int), ((S.idxOf nx : Nat) : Int)⟩])) := if_pos hm
  have HL : Hid (∀ W, RowKit.Below w.heap.size w W → (Instr.lookup 174 (.map (some mb)) (.string ks) true).run Tryz.prog W = .ok (.tuple #[.int .i64 (S.idxOf nx : Nat), .bool true]) W) := fun W hW => by
   rw [← HPK.out]; exact num_hit (Mp.below' HN.out.2 hW) HKK.out hm
  generalize S.idxOf nx = t at *
  clear hm hN
  go_enter Tryz.func168, Tryz.ntmps168
  go_upto_region 0 with fail
  go_region_held3 (fun w' => w'.cell? ⟨bn, 0, none⟩ = some (.map (some mb)) ∧ RowKit.Below w.heap.size w w' ∧ (Instr.lookup 174 (.map (some mb)) (.string ks) true).run Tryz.prog w' = .ok (.tuple #[.int .i64 (t : Nat), .bool true]) w')
   (first | (go_split_ands; refine ⟨?_, ?_, ?_⟩ <;> first | assumption | (go_keep; done) | exact below_dN (RowKit.Below.refl _ _) 1 | exact HL.out _ (below_dN (RowKit.Below.refl _ _) 1) | exact (RowKit.Below.cell (by assumption) hbnlt).trans c0 | exact HL.out _ (by assumption)))
   (first | (go_at_call 166; go_split_ands; with_reducible refine (HK.out _ (by assumption)).mono ?_; rintro e wA ⟨rfl, hBa⟩; have hBw := RowKit.Below.trans (show RowKit.Below w.heap.size w _ by assumption) (hBa.mono (RowKit.Below.size (by assumption)))))
  all_goals
   have hBX : RowKit.Below bw w wA := hBw.mono hw
   have hwX : bw ≤ wA.heap.size := Nat.le_trans hw hBw.size
   have HNX := hidI (HN.out.keep (KX0.below hBw) (KXm.below hBw))
   have HSX := hidI (HS.out.keep (KX0.below hBw) (KX0.below hBw) (KX0.below hBw))
   have HOX := hidI (HO.out.keep (KX0.below hBw) (KX0.below hBw))
   have HOKX := HOK
   have hiX := HI.out.below hBw HI.out.lt
   have hGX : KX1 24 bo w wA := (KX0.below hBw).one bo
   have hIX : KX0 3 w wA := KX0.below hBw
   go_upto_region 5 with fail
   (obtain ⟨pe, ce, ro, oo⟩ := HOX.out; have f2 := ro.at 2 rfl; have fi := hiX.at 0 rfl; have oA := oo.alloc (.cells (edE ⟨(i : Int), (a : Int), (t : Int)⟩).toArray 44); have hnew := cell_new3 wA ⟨(i : Int), (a : Int), (t : Int)⟩ 44 (wA).heap.size rfl; go_wp2_with (at_builtin; refine wpList_append_own _ rfl _ _ 22 rfl bw 44 j0 _ 3 24 Tryz.underlying22 hj0 hy0 hy1 hy2 rfl (by decide) _ _ _ rfl oA ⟨(wA).heap.size, 0, none⟩ 1 1 (cat [⟨(i : Int), (a : Int), (t : Int)⟩]) rfl rfl hnew (cat_one _) (by simp [maxLen]; omega) (by omega) (by simp; omega) ?_; intro v' w9 hown' hgrow _; obtain ⟨p9, m9, c9, rfl⟩ := own_shI hown'; obtain ⟨z0, ⟨u9, z1⟩, y1, y2, y3, y4, y5⟩ := edges_push ro oo hown' hgrow hbo hwX); go_end0; rw [HP.out]; exact ⟨rfl, ⟨HNX.out.keep (y3 _ (by decide) (by decide)) y5, HSX.out.keep (y3 _ (by decide) (by decide)) (y3 _ (by decide) (by decide)) (y3 _ (by decide) (by decide)), y2, HOKX.out⟩, hBX.trans y1, hGX.trans y4, hIX.trans (y3 _ (by decide) (by decide))⟩)
 ·have HP : Hid (sbPut nx i a (S, E) = (S ++ [nx], E ++ [⟨(i : Int), (a : Int), (S.length : Int)⟩])) := if_neg hm
  have HL : Hid (∀ W, RowKit.Below w.heap.size w W → (Instr.lookup 174 (.map (some mb)) (.string ks) true).run Tryz.prog W = .ok (.tuple #[.int .i64 0, .bool false]) W) := fun W hW => by
   rw [← HPK.out]; exact num_miss (Mp.below' HN.out.2 hW) HKK.out hm
  have HNS : Hid (∀ W, RowKit.Below w.heap.size w W → ∃ wm, (Instr.mapUpdate 174 (.map (some mb)) (.string ks) (.int .i64 (S.length : Int))).run Tryz.prog W = .ok () wm ∧ PN bn mb (S ++ [nx]) wm ∧ W.mapTurned wm mb) := fun W hW => by
   rw [← HPK.out]; exact num_store (HN.out.keep (KX0.below hW) (KXm.below hW)) HKK.out hm
  have HOKX : Hid (∀ s ∈ S ++ [nx], okK s) := fun s hs => by
   rcases List.mem_append.1 hs with hs | hs
   ·exact HOK.out s hs
   ·obtain rfl := List.mem_singleton.1 hs; exact HKK.out
  clear hm hN
  go_enter Tryz.func168, Tryz.ntmps168
  go_upto_region 0 with fail
  go_region_held3 (fun w' => w'.cell? ⟨bn, 0, none⟩ = some (.map (some mb)) ∧ RowKit.Below w.heap.size w w' ∧ (Instr.lookup 174 (.map (some mb)) (.string ks) true).run Tryz.prog w' = .ok (.tuple #[.int .i64 0, .bool false]) w')
   (first | (go_split_ands; refine ⟨?_, ?_, ?_⟩ <;> first | assumption | (go_keep; done) | exact below_dN (RowKit.Below.refl _ _) 1 | exact HL.out _ (below_dN (RowKit.Below.refl _ _) 1) | exact (RowKit.Below.cell (by assumption) hbnlt).trans c0 | exact HL.out _ (by assumption)))
   (first | (go_at_call 166; go_split_ands; with_reducible refine (HK.out _ (by assumption)).mono ?_; rintro e wA ⟨rfl, hBa⟩; have hBw := RowKit.Below.trans (show RowKit.Below w.heap.size w _ by assumption) (hBa.mono (RowKit.Below.size (by assumption)))))
  all_goals
   have hwA : bw ≤ wA.heap.size := Nat.le_trans hw hBw.size
   obtain ⟨ps, cs, Vs, rs, os, hel⟩ := HS.out.keep (KX0.below hBw) (KX0.below hBw) (KX0.below hBw)
   have s0 := rs.at 0 rfl
   have c0A := (RowKit.Below.cell hBw hbnlt).trans c0
   have HEL := hidI hel
   clear hel
   go_upto_region 3 with fail
   go_cut [] (fun wx => PN bn mb (S ++ [nx]) wx ∧ ∃ wB, RowKit.Below wA.heap.size wA wB ∧ wB.mapTurned wx mb)
   case first =>
    go_region_with (go_at_call 166; refine (HK.out _ (RowKit.Below.trans hBw ((below_dN (RowKit.Below.refl _ _) 1).mono hBw.size))).mono ?_; rintro e wB ⟨rfl, hBb⟩; have hBAB := RowKit.Below.trans (below_dN (RowKit.Below.refl wA.heap.size wA) 1) hBb; have cB := (RowKit.Below.cell (hBw.trans (hBAB.mono hBw.size)) hbnlt).trans c0; obtain ⟨wm, hst, hPN, hturn⟩ := HNS.out wB (hBw.trans (hBAB.mono hBw.size)))
    all_goals
     go_wp2_with fail
     go_meet
     exact ⟨hPN, wB, hBAB, hturn⟩
   case rest =>
    obtain ⟨hPN, wB, hBAB, hturn⟩ := hcut
    have kA : ∀ t, KX0 t wA wc := fun t => (KX0.below hBAB).trans (KX0.turn hturn)
    have kW : ∀ t, KX0 t w wc := fun t => (KX0.below hBw).trans (kA t)
    have hwB : bw ≤ wB.heap.size := Nat.le_trans hwA hBAB.size
    have hBx : RowKit.Below bw w wc := turn_below ((hBw.mono hw).trans (hBAB.mono hwA)) hturn hmb hwB
    have hwx : bw ≤ wc.heap.size := Nat.le_trans hwB hturn.grown.size
    have rsx := (kA _).vrow rs
    have osx := (kA _).own os
    have hxx := (kW _).own HX.out
    have HELX : Hid (∀ i (h : i < S.length), ∃ v, Vs[i]? = some v ∧ (∃ p c, v = .slice p S[i].length c) ∧ wc.ownsRow bw 3 1 v S[i].length (S[i].map (Value.int .i64))) := fun i hi => by
     obtain ⟨v, e1, e2, e3⟩ := HEL.out i hi
     exact ⟨v, e1, e2, (kA _).own e3⟩
    have HOx := hidI (HO.out.keep (kW _) (kW _))
    have hix := (kW _).vrow HI.out
    have hgx : KX1 24 bo w wc := (kW _).one bo
    have hIx := kW 3
    have hoS := osx.alloc (.cells #[.slice pn nx.length cn] 30)
    have hnew1 := cell_one_new wc (.slice pn nx.length cn) 30
    have HPN := hidI hPN
    clear s0 c0A rs os kA kW hturn hBAB hPN hBw
    have s0 := rsx.at 0 rfl
    go_upto_region 5 with (at_builtin; refine wpList_append_own _ rfl _ _ 47 rfl bw 30 i0 _ 1 24 Tryz.underlying47 hi0 hz0 hz1 hz2 rfl (by decide) _ _ _ rfl hoS ⟨wc.heap.size, 0, none⟩ 1 1 [.slice pn nx.length cn] rfl rfl hnew1 (by simp [Value.oneCell']) (by simp [maxLen]; omega) (by omega) (by simp; omega) ?_; intro v' w9 hown' hgrow _; obtain ⟨p9, m9, c9, rfl⟩ := own_shI hown'; obtain ⟨z0, ⟨u9, z1⟩, k1, k2, k3, k4⟩ := sets_push rsx osx HELX.out hxx hown' hgrow hbs hwx)
    generalize w9.setCell ⟨bs, 0, none⟩ (.slice p9 m9 c9) = wA at *
    have hBX := hBx.trans k1
    have hwX : bw ≤ wA.heap.size := Nat.le_trans hwx k1.size
    have HNX := hidI (HPN.out.keep (k3 _ (by decide) (by decide)) k4)
    have HSX := hidI k2
    have HOX := hidI (HOx.out.keep (k3 _ (by decide) (by decide)) (k3 _ (by decide) (by decide)))
    have hiX := (k3 3 (by decide) (by decide)).vrow hix
    have hGX := hgx.trans ((k3 24 (by decide) (by decide)).one bo)
    have hIX := hIx.trans (k3 3 (by decide) (by decide))
    clear hown' hgrow z0 z1 s0 rsx osx hxx hix k1 k2 k3 k4 hoS hnew1
    (obtain ⟨pe, ce, ro, oo⟩ := HOX.out; have f2 := ro.at 2 rfl; have fi := hiX.at 0 rfl; have oA := oo.alloc (.cells (edE ⟨(i : Int), (a : Int), (S.length : Int)⟩).toArray 44); have hnew := cell_new3 wA ⟨(i : Int), (a : Int), (S.length : Int)⟩ 44 (wA).heap.size rfl; go_wp2_with (at_builtin; refine wpList_append_own _ rfl _ _ 22 rfl bw 44 j0 _ 3 24 Tryz.underlying22 hj0 hy0 hy1 hy2 rfl (by decide) _ _ _ rfl oA ⟨(wA).heap.size, 0, none⟩ 1 1 (cat [⟨(i : Int), (a : Int), (S.length : Int)⟩]) rfl rfl hnew (cat_one _) (by simp [maxLen]; omega) (by omega) (by simp; omega) ?_; intro v' w9 hown' hgrow _; obtain ⟨p9, m9, c9, rfl⟩ := own_shI hown'; obtain ⟨z0, ⟨u9, z1⟩, y1, y2, y3, y4, y5⟩ := edges_push ro oo hown' hgrow hbo hwX); go_end0; rw [HP.out]; exact ⟨rfl, ⟨HNX.out.keep (y3 _ (by decide) (by decide)) y5, HSX.out.keep (y3 _ (by decide) (by decide)) (y3 _ (by decide) (by decide)) (y3 _ (by decide) (by decide)), y2, HOKX.out⟩, hBX.trans y1, hGX.trans y4, hIX.trans (y3 _ (by decide) (by decide))⟩)
end
section
open Go.RowKit
theorem sbA_err (G : Gr) (h : chkG G = 0) : (sbA G).2.2 = 0 ∨ (sbA G).2.2 = 4 := by
 unfold sbA
 rw [if_pos h]
 split
 ·exact .inl rfl
 ·cases sbGo G 66 0 ([upto G.n.toNat], []) with
  | none => exact .inr rfl
  | some r => exact .inl rfl
end
section
open Go.RowKit Go.Sort Go.Shelf Go.Lib
theorem nextA_chk (G : Gr) (st : List Int) (b : Int) (hn : 0 ≤ G.n) : chkS G.n none (nextA G st b) = 0 :=
 chkS_of (nextA_srt G st b) (fun x hx => by
  have := mem_upto.1 (List.mem_filter.1 hx).1
  omega) (fun q h => by cases h)
theorem srt_len {n : Int} : ∀ {l : List Int} {a : Int}, l.Pairwise (· < ·) → (∀ x ∈ l, a ≤ x ∧ x < n) → a ≤ n → (l.length : Int) ≤ n - a
 | [], a, _, _, h => by simp; omega
 | x :: l, a, h1, h2, h => by
  obtain ⟨p1, p2⟩ := List.pairwise_cons.1 h1
  have hx := h2 x (by simp)
  have := srt_len (a := x + 1) p2 (fun y hy => ⟨by have := p1 y hy; omega, (h2 y (by simp [hy])).2⟩) (by omega)
  rw [List.length_cons]; omega
theorem chk_len {n : Int} {l : List Int} (hn : 0 ≤ n ∧ n ≤ 64) (h : chkS n none l = 0) : l.length ≤ 64 := by
 obtain ⟨h1, h2, _⟩ := chkS_ok h
 have := srt_len (a := 0) h1 h2 (by omega)
 omega
theorem chk_okK {n : Int} {l : List Int} (hn : 0 ≤ n ∧ n ≤ 64) (h : chkS n none l = 0) : okK l :=
 ⟨fun x hx => by have := (chkS_ok h).2.1 x hx; omega, by have := chk_len hn h; omega⟩
def Gs (n : Int) (st : Sst) : Prop := ∀ s ∈ st.1, chkS n none s = 0
theorem Gs.add {G : Gr} (hn : 0 ≤ G.n) {set : List Int} {i : Nat} {st : Sst} (h : Gs G.n st) (a : Nat) : Gs G.n (sbAdd G set i st a) := by
 unfold sbAdd
 split
 ·exact h
 ·split
  ·exact h
  ·intro s hs
   rcases List.mem_append.1 hs with hs | hs
   ·exact h s hs
   ·obtain rfl := List.mem_singleton.1 hs
    exact nextA_chk G set a hn
theorem Gs.to {G : Gr} (hn : 0 ≤ G.n) {set : List Int} {i : Nat} {st : Sst} (h : Gs G.n st) : ∀ L, Gs G.n (sbTo G set i st L)
 | 0 => h
 | L + 1 => by rw [sbTo_succ]; exact (h.to hn L).add hn L
theorem sbTo_grow (G : Gr) (set : List Int) (i : Nat) (st : Sst) : ∀ L, (sbTo G set i st L).1.length ≤ st.1.length + L ∧ (sbTo G set i st L).2.length ≤ st.2.length + L
 | 0 => ⟨Nat.le_refl _, Nat.le_refl _⟩
 | L + 1 => by
  have := sbTo_grow G set i st L
  rw [sbTo_succ]
  unfold sbAdd
  split
  ·omega
  ·split
   ·simp only [List.length_append, List.length_singleton]; omega
   ·simp only [List.length_append, List.length_singleton]; omega
def sbR (G : Gr) : Option Sst → Gr × List (List Int) × Int
 | none => (⟨0, 0, []⟩, [], 4)
 | some r => (⟨G.q, (r.1.length : Int), r.2⟩, r.1, 0)
theorem sbA_ok1 {G : Gr} (h : chkG G = 0) (hn : G.n ≠ 0) : sbA G = sbR G (sbGo G 66 0 ([upto G.n.toNat], [])) := by
 unfold sbA; rw [if_pos h, if_neg hn]; cases sbGo G 66 0 ([upto G.n.toNat], []) <;> rfl
theorem sbGo_end {G : Gr} {m i : Nat} {st : Sst} (h : st.1.length ≤ i) : sbGo G (m + 1) i st = some st := by
 unfold sbGo; rw [List.getElem?_eq_none h]
theorem sbGo_next {G : Gr} {m i : Nat} {st : Sst} (h : i < st.1.length) : sbGo G (m + 1) i st = if 64 < (sbTo G st.1[i] i st G.q.toNat).1.length ∨ 1024 < (sbTo G st.1[i] i st G.q.toNat).2.length then none else sbGo G m (i + 1) (sbTo G st.1[i] i st G.q.toNat) := by
 rw [sbGo]; rw [List.getElem?_eq_getElem h]
def RetSb (r : Gr × List (List Int) × Int) (w : World) (e : Ending) (w' : World) : Prop :=
 ∃ p c ps ms cs, e = .returned (.tuple #[(.agg #[.int .i64 r.1.q, .int .i64 r.1.n, .slice p r.1.es.length c]), .slice ps ms cs, .int .i64 r.2.2]) ∧ w'.ownsRow w.heap.size 44 3 (.slice p r.1.es.length c) r.1.es.length (cat r.1.es) ∧ RowKit.Below w.heap.size w w'
theorem RetSb.of {x : Gr × List (List Int) × Int} {G : Gr} {S : List (List Int)} {k : Int} {w w' : World} {p ps : Option Addr} {m c ms cs : Nat} (hx : x = (G, S, k)) (hm : m = G.es.length) (hs : w'.ownsRow w.heap.size 44 3 (.slice p m c) m (cat G.es)) (hB : RowKit.Below w.heap.size w w') :
  RetSb x w (.returned (.tuple #[.agg #[.int .i64 G.q, .int .i64 G.n, .slice p m c], .slice ps ms cs, .int .i64 k])) w' := by
 subst hx; subst hm; exact ⟨p, c, ps, ms, cs, rfl, hs, hB⟩
def cellInt (W : World) : Value → Nat
 | .pointer (some a) => (match W.cell? a with | some v => (RowKit.intOf v).toNat | none => 0)
 | _ => 0
theorem Mp.store1 {w w2 : World} {ks : ByteArray} {set : List Int} (hk : okK set) (hks : kK set = .string ks) (hB : RowKit.Below (w.alloc (.map #[] 0)).heap.size (w.alloc (.map #[] 0)) w2) :
  ∃ w3, (Instr.mapUpdate 174 (.map (some w.heap.size)) (.string ks) (.int .i64 0)).run Tryz.prog w2 = .ok () w3 ∧ Mp kK okK (Value.int .i64) w3 w.heap.size (numF [set]) ∧ w2.mapTurned w3 w.heap.size := by
 have h := (Mp.made (kv := kK) (ok := okK) (vv := Value.int .i64) w).below hB (by rw [World.size_alloc]; omega)
 obtain ⟨w3, h1, h2, h3⟩ := h.store keyK Tryz.underlying174 set hk 0
 rw [hks] at h1
 refine ⟨w3, h1, h2.congr (fun a => ?_), h3⟩
 unfold mset numF
 by_cases e : a = set
 ·subst e; simp
 ·simp [e]
def SbJ (G : Gr) (w0 : World) (bn bs bo mb bi i : Nat) (s : List Int) (v : Value) (st : Sst) (W : World) : Prop :=
 Bx w0.heap.size bn bs bo mb G.q st W ∧ RowKit.Below w0.heap.size w0 W ∧ VRow W bi 3 [.int .i64 i] ∧ W.ownsRow w0.heap.size 3 1 v s.length (s.map (Value.int .i64))
theorem SbJ.below {G : Gr} {w0 : World} {bn bs bo mb bi i : Nat} {s : List Int} {v : Value} {st : Sst} {W W' : World} (h : SbJ G w0 bn bs bo mb bi i s v st W) (hB : RowKit.Below W.heap.size W W') : SbJ G w0 bn bs bo mb bi i s v st W' :=
 ⟨h.1.below hB, h.2.1.trans (hB.mono h.2.1.size), h.2.2.1.below hB h.2.2.1.lt, h.2.2.2.below hB⟩
set_option maxRecDepth 100000 in
set_option maxHeartbeats 1000000 in
theorem ssteps_build (G : Gr) (p : Option Addr) (c : Nat) (w0 : World) (bn bs bo mb bi i : Nat) (s : List Int) (q : Option Addr) (d : Nat) (st : Sst) (W : World) (hin : Sg 3 w0 edE p G.es) (hv : Vg G) (hs : chkS G.n none s = 0)
  (h1 : st.1.length ≤ 64) (h2 : st.2.length ≤ 1024) (hmb : w0.heap.size ≤ mb) (hbs : w0.heap.size ≤ bs) (hbo : w0.heap.size ≤ bo) (h : SbJ G w0 bn bs bo mb bi i s (.slice q s.length d) st W) :
  Calls Tryz.prog 167 #[(.agg #[.int .i64 G.q, .int .i64 G.n, .slice p G.es.length c]), .slice q s.length d, .func (.func 168) #[] #[.pointer (some ⟨bn, 0, none⟩), .pointer (some ⟨bs, 0, none⟩), .pointer (some ⟨bo, 0, none⟩), .pointer (some ⟨bi, 0, none⟩)]] W fun e w' =>
   e = .returned (.tuple #[]) ∧ SbJ G w0 bn bs bo mb bi i s (.slice q s.length d) (sbTo G s i st G.q.toNat) w' := by
 have hboW : bo < W.heap.size := by
  obtain ⟨⟨_, _, ⟨pe, ce, r, _⟩, _⟩, _⟩ := h
  exact r.lt
 refine ssteps_any G p c s q d 168 _ (fun a V => SbJ G w0 bn bs bo mb bi i s (.slice q s.length d) (sbTo G s i st a) V) W hv hs (chk_len ⟨hv.n1, hv.n2⟩ hs) (enters_of Tryz.func168 (by kernel_rfl) rfl) ?_ ?_ ?_ ?_ h
 ·rintro a V ⟨_, hB, _, ho⟩
  obtain ⟨p', c', e, hsl⟩ := own_sl ho
  cases e
  exact ⟨hin.below hB, hsl⟩
 ·intro a V V' hJ hB; exact hJ.below hB
 ·intro a V ha hn hJ
  show SbJ G w0 bn bs bo mb bi i s (.slice q s.length d) (sbTo G s i st (a + 1)) V
  rw [sbTo_succ, sbAdd_none hn]; exact hJ
 ·rintro a V pn cn ha hn hlt ⟨hX, hB, hI, ho⟩ hnx
  have hgr := sbTo_grow G s i st a
  have hq := hv.q2
  show Calls Tryz.prog 168 #[.int .i64 a, .slice pn (nextA G s a).length cn, .pointer (some ⟨bn, 0, none⟩), .pointer (some ⟨bs, 0, none⟩), .pointer (some ⟨bo, 0, none⟩), .pointer (some ⟨bi, 0, none⟩)] V _
  have hB0 := hB.size
  refine (sbuild1_any w0.heap.size bn bs bo mb bi i a G.q (sbTo G s i st a) (nextA G s a) pn cn V hX hI (own_downN hnx (by omega)) (chk_okK ⟨hv.n1, hv.n2⟩ (nextA_chk G s a hv.n1)) (by omega) (by omega) hmb hbs hbo hB0).mono ?_
  rintro e V' ⟨he, k1, k2, k3, k4⟩
  refine ⟨he, ⟨?_, hB.trans k2, k4.vrow hI, k4.own ho⟩, fun l hl => k3.vrow hl (by omega)⟩
  rw [sbTo_succ, sbAdd_put hn]; exact k1
set_option maxRecDepth 100000 in
set_option maxHeartbeats 4000000 in
theorem sbuild_any (G : Gr) (p : Option Addr) (c : Nat) (set : List Int) (q : Option Addr) (d : Nat) (w : World) (hin : Sg 3 w edE p G.es) (hst : Sl w (Value.int .i64) q set) (hv : Vg G) (hc : chkS G.n none set = 0) (hne : set ≠ []) :
  Calls Tryz.prog 113 #[(.agg #[.int .i64 G.q, .int .i64 G.n, .slice p G.es.length c]), .slice q set.length d] w (RetSb (sbR G (sbGo G 66 0 ([set], []))) w) := by
 have HV := hidI hv
 have hlen := HV.out.len
 have hks0 := chk_okK ⟨hv.n1, hv.n2⟩ hc
 have h64 := chk_len ⟨hv.n1, hv.n2⟩ hc
 obtain ⟨Q, hQ⟩ : ∃ Q : Nat, G.q = Q := ⟨G.q.toNat, by have := hv.q1; omega⟩
 have HQ := hidI hQ
 have HKO := hidI hks0
 obtain ⟨ks, hks⟩ : ∃ ks : ByteArray, ks = ⟨(keyL set).toArray⟩ := ⟨_, rfl⟩
 have HPK : Hid (kK set = .string ks) := by rw [hks]; rfl
 obtain ⟨w0, hw0⟩ : ∃ w0, w0 = (w.alloc (.cells #[.int .i64 G.q, .int .i64 G.n, .slice p G.es.length c] 24)).alloc (.cells #[.int .i64 0, .int .i64 0, .slice none 0 0] 24) := ⟨_, rfl⟩
 have b0 : VRow w0 w.heap.size 24 [.int .i64 G.q, .int .i64 G.n, .slice p G.es.length c] := by subst hw0; exact (VRow.new w _ _).alloc _
 have b1 : VRow w0 (w.heap.size + 1) 24 [.int .i64 0, .int .i64 0, .slice none 0 0] := by subst hw0; exact VRow.new1 w _ _ _
 have hB0 : RowKit.Below w.heap.size w w0 := by subst hw0; exact ((RowKit.Below.refl _ _).alloc (Nat.le_refl _) _).alloc (by simp) _
 have HIN := hidI (hin.below hB0); have HST := hidI (hst.below hB0)
 have HKY : Hid (∀ W, RowKit.Below w0.heap.size w0 W → Calls Tryz.prog 166 #[.slice q set.length d] W fun e w' => e = .returned (.string ks) ∧ RowKit.Below W.heap.size W w') := fun W hW => by
  rw [hks]; exact skey_any set q d W (HST.out.below hW) HKO.out.1 HKO.out.2
 obtain ⟨w1, hw1⟩ : ∃ w1, w1 = w0.alloc (.map #[] 0) := ⟨_, rfl⟩
 have hB1 : RowKit.Below w0.heap.size w0 w1 := by subst hw1; exact (RowKit.Below.refl _ _).alloc (Nat.le_refl _) _
 have HMS : Hid (∀ w2, RowKit.Below w1.heap.size w1 w2 → ∃ w3, (Instr.mapUpdate 174 (.map (some w0.heap.size)) (.string ks) (.int .i64 0)).run Tryz.prog w2 = .ok () w3 ∧ Mp kK okK (Value.int .i64) w3 w0.heap.size (numF [set]) ∧ w2.mapTurned w3 w0.heap.size) := fun w2 h => by
  subst hw1; exact Mp.store1 HKO.out HPK.out h
 have HW1 := hidI hw1
 have hmm := @run_makeMap Tryz.prog
 have HGS : Hid (Gs G.n ([set], [])) := fun s hs => by obtain rfl := List.mem_singleton.1 hs; exact hc
 clear hin hst hv hc hks0 hQ hks
 go_enter Tryz.func113, Tryz.ntmps113
 go_upto_region 1 with fail
 rw [← hw0]
 clear hw0
 go_wp2_with fail
 rw [← HW1.out]
 refine (HKY.out w1 hB1).mono ?_
 rintro e w2 ⟨rfl, hB2⟩
 obtain ⟨w3, hst3, hM3, hturn⟩ := HMS.out w2 hB2
 go_upto_region 2 with fail
 obtain ⟨w4, hw4⟩ : ∃ w4, w4 = w3.alloc (.cells #[.map (some w0.heap.size)] 174) := ⟨_, rfl⟩
 have hB3 : RowKit.Below w0.heap.size w0 w3 := turn_below (hB1.trans (hB2.mono hB1.size)) hturn (Nat.le_refl _) (Nat.le_trans hB1.size hB2.size)
 have hB34 : RowKit.Below w3.heap.size w3 w4 := by subst hw4; exact (RowKit.Below.refl _ _).alloc (Nat.le_refl _) _
 have hB4 := hB3.trans (hB34.mono hB3.size)
 have hN4 : PN w3.heap.size w0.heap.size [set] w4 := ⟨by subst hw4; exact VRow.new w3 _ _, Mp.below' hM3 hB34⟩
 rw [← hw4]
 obtain ⟨bn, hbn⟩ : ∃ bn, bn = w3.heap.size := ⟨_, rfl⟩
 obtain ⟨mb, hmb⟩ : ∃ mb, mb = w0.heap.size := ⟨_, rfl⟩
 have hmb0 : w0.heap.size ≤ mb := by omega
 have hbn0 : w0.heap.size ≤ bn := by rw [hbn]; exact hB3.size
 rw [← hbn, ← hmb] at hN4
 rw [← hbn, ← hmb]
 clear hw4 hst3 hM3 hturn hB3 hB34 hmm hw1 HW1 HMS hbn hmb
 have hCL : Hid (∀ W, RowKit.Below w0.heap.size w0 W → Calls Tryz.prog 91 #[.slice q set.length d] W fun e w' => ∃ p c, e = .returned (.slice p set.length c) ∧ w'.ownsRow W.heap.size 3 1 (.slice p set.length c) set.length (set.map (Value.int .i64)) ∧ RowKit.Below W.heap.size W w') := fun W hW => by
  obtain ⟨b, off, rfl, hb, hcell⟩ := (HST.out.below hW).get 0 (List.length_pos_iff.2 hne)
  refine (Tryz.slices_Clone_int b off set.length d set W (Nat.le_refl _) (by omega) (fun j hj => by rw [hcell j hj]; simp [List.getD_eq_getElem?_getD, hj])).mono ?_
  rintro e w' ⟨v', rfl, ho, _, hB⟩
  rw [List.take_length] at ho
  obtain ⟨p', c', rfl⟩ := own_shape1 ho
  exact ⟨p', c', rfl, ho, hB⟩
 go_wp2_with fail
 refine (hCL.out w4 hB4).mono ?_
 rintro e w5 ⟨ps, cs, rfl, hown5, hB5⟩
 go_upto_region 3 with fail
 obtain ⟨bs, hbs⟩ : ∃ bs, bs = w5.heap.size + 1 := ⟨_, rfl⟩
 obtain ⟨w6, hw6⟩ : ∃ w6, w6 = (w5.alloc (.cells #[.slice ps set.length cs] 30)).alloc (.cells #[.slice (some ⟨w5.heap.size, 0, none⟩) 1 1] 47) := ⟨_, rfl⟩
 have hB6 : RowKit.Below w5.heap.size w5 w6 := by subst hw6; exact ((RowKit.Below.refl _ _).alloc (Nat.le_refl _) _).alloc (by simp) _
 have hB45 := hB4.trans (hB5.mono hB4.size)
 have hB06 := hB45.trans (hB6.mono hB45.size)
 have hbs0 : w0.heap.size ≤ bs := by have := hB45.size; omega
 have hS6 : PS w0.heap.size bs [set] w6 := by
  subst hw6
  refine ⟨some ⟨w5.heap.size, 0, none⟩, 1, [.slice ps set.length cs], by rw [hbs]; exact VRow.new1 w5 _ _ _, ?_, fun i hi => ?_⟩
  ·exact (own_new w5 w0.heap.size [.slice ps set.length cs] 30 hB45.size (by simp [maxLen])).alloc _
  ·obtain rfl : i = 0 := by simp at hi; exact hi
   exact ⟨_, rfl, ⟨_, _, rfl⟩, (own_downN (hown5.below hB6) hB4.size)⟩
 have hN6 := hN4.keep (KX0.below (hB5.trans (hB6.mono hB5.size))) (KXm.below (hB5.trans (hB6.mono hB5.size)))
 rw [← hw6, ← hbs]
 clear hw6 hbs hB5 hB6 hB45 hown5 hN4
 have c0 := b0.below hB06 b0.lt
 have f0 := c0.at 0 rfl
 obtain ⟨w7, hw7⟩ : ∃ w7, w7 = w6.alloc (.cells #[.int .i64 G.q, .int .i64 0, .slice none 0 0] 24) := ⟨_, rfl⟩
 obtain ⟨w8, hw8⟩ : ∃ w8, w8 = w7.alloc (.cells #[.int .i64 0] 3) := ⟨_, rfl⟩
 have hB67 : RowKit.Below w6.heap.size w6 w7 := by subst hw7; exact (RowKit.Below.refl _ _).alloc (Nat.le_refl _) _
 have hB78 : RowKit.Below w7.heap.size w7 w8 := by subst hw8; exact (RowKit.Below.refl _ _).alloc (Nat.le_refl _) _
 have hB68 := hB67.trans (hB78.mono hB67.size)
 have hB08 := hB06.trans (hB68.mono hB06.size)
 have hI8 : VRow w8 w7.heap.size 3 [.int .i64 ((0 : Nat) : Int)] := by subst hw8; exact VRow.new w7 _ _
 obtain ⟨bo, hbo⟩ : ∃ bo, bo = w6.heap.size := ⟨_, rfl⟩
 obtain ⟨bi, hbi⟩ : ∃ bi, bi = w7.heap.size := ⟨_, rfl⟩
 have hbo0 : w0.heap.size ≤ bo := by have := hB06.size; omega
 have hbi0 : w0.heap.size ≤ bi := by have := (hB06.trans (hB67.mono hB06.size)).size; omega
 have hO8 : PO w0.heap.size bo G.q [] w8 := by
  have r7 : VRow w7 w6.heap.size 24 [.int .i64 G.q, .int .i64 0, .slice none 0 0] := by subst hw7; exact VRow.new w6 _ _
  rw [hbo]
  exact ⟨none, 0, r7.below hB78 r7.lt, World.ownsRow_nil _ _ _ _⟩
 have hX8 : Bx w0.heap.size bn bs bo mb G.q ([set], []) w8 :=
  ⟨hN6.keep (KX0.below hB68) (KXm.below hB68), hS6.keep (KX0.below hB68) (KX0.below hB68) (KX0.below hB68), hO8, fun s hs => by obtain rfl := List.mem_singleton.1 hs; exact HKO.out⟩
 rw [← hbi] at hI8
 go_upto_region 4 with fail
 rw [← hw7, ← hbo]
 have HW8 := hidI hw8; have HBI := hidI hbi
 clear f0 hw7 hw8 hbo hbi hB67 hB78 hB68 hN6 hS6 hO8 hB06 c0
 go_wp2
 rw [← HW8.out, ← HBI.out]
 clear HW8 HBI
 go_loopw [10] (fun bv wr => ∃ (i bi : Nat) (st : Sst), bv = .pointer (some ⟨bi, 0, none⟩) ∧ VRow wr bi 3 [.int .i64 i] ∧ Bx w0.heap.size bn bs bo mb G.q st wr ∧ Gs G.n st ∧ i ≤ st.1.length ∧ st.1.length ≤ 64 ∧ st.2.length ≤ 1024 ∧ Hid (sbGo G (66 - i) i st = sbGo G 66 0 ([set], [])) ∧ RowKit.Below w0.heap.size w0 wr ∧ w0.heap.size ≤ bi) (fun bv wr => 66 - cellInt wr bv)
 case atStart => exact ⟨0, bi, ([set], []), rfl, hI8, hX8, HGS.out, by simp, by simp, by simp, rfl, hB08, hbi0⟩
 case round =>
  clear hX8 hI8 hB08 hbi0
  obtain ⟨i, bi, st, rfl, hI, hX, hg, hil, h64, h1k, hgo, hB, hbi0⟩ := hrel
  have fi := hI.at 0 rfl
  obtain ⟨ps, cs, Vs, rs, os, hel⟩ := hX.sets
  have s0 := rs.at 0 rfl
  by_cases hlt : i < st.1.length
  ·have hltI : (i : Int) < (st.1.length : Int) := by omega
   obtain ⟨v, hv, ⟨pv, cv, rfl⟩, ov⟩ := hel i hlt
   obtain ⟨gs, rfl⟩ : ∃ gs, ps = some ⟨gs, 0, none⟩ := by
    rcases os.2 with ⟨_, h0⟩ | ⟨g, cap, cur, e, _⟩
    ·omega
    ·cases e; exact ⟨g, rfl⟩
   have cS : wr.cell? ⟨gs, i, none⟩ = some (.slice pv st.1[i].length cv) := by rw [os.cellAt i (by omega)]; exact hv
   have HSP := hidI (fun W (h : SbJ G w0 bn bs bo mb bi i st.1[i] (.slice pv st.1[i].length cv) st W) => ssteps_build G p c w0 bn bs bo mb bi i st.1[i] pv cv st W HIN.out HV.out (hg _ (List.getElem_mem hlt)) h64 h1k hmb0 hbs0 hbo0 h)
   have HJ : Hid (SbJ G w0 bn bs bo mb bi i st.1[i] (.slice pv st.1[i].length cv) st wr) := ⟨hX, hB, hI, ov⟩
   have HGN := hidI (sbGo_next (G := G) (m := 65 - i) hlt)
   have HGG := hidI (hg.to HV.out.n1 (set := st.1[i]) (i := i) G.q.toNat)
   generalize st.1[i] = s at *
   go_upto_region 7 with fail
   refine region_tail 6 (by kernel_rfl) (by kernel_rfl) fun W hD => ?_
   have HJ2 := hidI (HJ.out.below (hD.below _))
   have c0 := (b0.below (hB.mono (Nat.le_refl _)) b0.lt).dr hD
   have e0 := c0.at 0 rfl; have e1 := c0.at 1 rfl; have e2 := c0.at 2 rfl
   have fi2 := (hD.cell _).trans fi
   have HFI := hidI fi
   have s02 := (hD.cell _).trans s0
   have cS2 := (hD.cell _).trans cS
   clear fi s0 cS hel os rs hI hX ov hv HJ c0
   simp only [List.take_succ_cons, List.take_zero, List.drop_succ_cons, List.drop_zero]
   iterate 6 still_step
   refine wpStill_nil ?_
   clear e0 e1 e2 fi2 s02 cS2
   go_wp2_with fail
   refine (HSP.out W HJ2.out).mono ?_
   rintro e W2 ⟨rfl, hX2, hB2, hI2, hO2⟩
   have hgr := sbTo_grow G s i st G.q.toNat
   have hle := sbTo_len (G := G) (set := s) (i := i) (st := st) G.q.toNat
   have hqb := HV.out.q2
   generalize sbTo G s i st G.q.toNat = st2 at *
   clear HJ2 hD hB HSP
   obtain ⟨S2, E2⟩ := st2
   have HGN : Hid (sbGo G (65 - i + 1) i st = if 64 < S2.length ∨ 1024 < E2.length then none else sbGo G (65 - i) (i + 1) (S2, E2)) := HGN
   have hgr : S2.length ≤ st.1.length + G.q.toNat ∧ E2.length ≤ st.2.length + G.q.toNat := hgr
   have hX2' := hidI hX2
   obtain ⟨_, ⟨ps2, cs2, Vs2, r2, _, _⟩, ⟨pe, ce, ro, _⟩, _⟩ := hX2
   have hle : st.1.length ≤ S2.length := hle
   have s2 : W2.cell? ⟨bs, 0, none⟩ = some (.slice ps2 S2.length cs2) := r2.at 0 rfl
   have e2 : W2.cell? ⟨bo, 2, none⟩ = some (.slice pe E2.length ce) := ro.at 2 rfl
   have fi3 := hI2.at 0 rfl
   have HGO : Hid (sbGo G 66 0 ([set], []) = sbGo G (65 - i + 1) i st) := by rw [Hid, ← hgo.out, show 65 - i + 1 = 66 - i by omega]
   have hS2l : S2.length ≤ 1000 := by omega
   have hE2l : E2.length ≤ 2000 := by omega
   have hlI : (S2.length : Int) ≤ 1000 := by omega
   clear r2 ro hgr
   by_cases hA : 64 < S2.length
   ·have HGE : Hid (sbGo G 66 0 ([set], []) = none) := by rw [Hid, HGO.out, HGN.out, if_pos (.inl hA)]
    have hAI : (64 : Int) < (S2.length : Int) := by omega
    (have c1 := b1.below hB2 b1.lt; have j0 := c1.at 0 rfl; have j1 := c1.at 1 rfl; have j2 := c1.at 2 rfl; have z0 := c1.frozen 0; have z1 := c1.frozen 1; have z2 := c1.frozen 2; go_wp2; have r6 := VRow.set (i := 2) (.slice none 0 0) (VRow.set (i := 1) (.int .i64 0) (VRow.set (i := 0) (.int .i64 0) c1)); have y0 := r6.at 0 rfl; have y1 := r6.at 1 rfl; have y2 := r6.at 2 rfl; have x2 := hB0.trans (hB2.mono hB0.size); have x6 : RowKit.Below w.heap.size w (((W2.setCell (⟨w.heap.size + 1, 0, none⟩ : Addr) (.int .i64 0)).setCell (⟨w.heap.size + 1, 1, none⟩ : Addr) (.int .i64 0)).setCell (⟨w.heap.size + 1, 2, none⟩ : Addr) (.slice none 0 0)) := ((x2.setCell (show w.heap.size ≤ w.heap.size + 1 by omega) _).setCell (show w.heap.size ≤ w.heap.size + 1 by omega) _).setCell (show w.heap.size ≤ w.heap.size + 1 by omega) _; refine bodyPost_ret (v := .tuple #[.agg #[.int .i64 0, .int .i64 0, .slice none 0 0], .slice none 0 0, .int .i64 4]) (by simp [results, Tryz.results113, go_sem, y0, y1, y2]) rfl ?_; rw [HGE.out]; exact RetSb.of (G := ⟨0, 0, []⟩) (S := []) rfl rfl (World.ownsRow_nil _ _ _ _) x6)
   ·have hAI : ¬ (64 : Int) < (S2.length : Int) := by omega
    by_cases hC : 1024 < E2.length
    ·have HGE : Hid (sbGo G 66 0 ([set], []) = none) := by rw [Hid, HGO.out, HGN.out, if_pos (.inr hC)]
     have hCI : (1024 : Int) < (E2.length : Int) := by omega
     (have c1 := b1.below hB2 b1.lt; have j0 := c1.at 0 rfl; have j1 := c1.at 1 rfl; have j2 := c1.at 2 rfl; have z0 := c1.frozen 0; have z1 := c1.frozen 1; have z2 := c1.frozen 2; go_wp2; have r6 := VRow.set (i := 2) (.slice none 0 0) (VRow.set (i := 1) (.int .i64 0) (VRow.set (i := 0) (.int .i64 0) c1)); have y0 := r6.at 0 rfl; have y1 := r6.at 1 rfl; have y2 := r6.at 2 rfl; have x2 := hB0.trans (hB2.mono hB0.size); have x6 : RowKit.Below w.heap.size w (((W2.setCell (⟨w.heap.size + 1, 0, none⟩ : Addr) (.int .i64 0)).setCell (⟨w.heap.size + 1, 1, none⟩ : Addr) (.int .i64 0)).setCell (⟨w.heap.size + 1, 2, none⟩ : Addr) (.slice none 0 0)) := ((x2.setCell (show w.heap.size ≤ w.heap.size + 1 by omega) _).setCell (show w.heap.size ≤ w.heap.size + 1 by omega) _).setCell (show w.heap.size ≤ w.heap.size + 1 by omega) _; refine bodyPost_ret (v := .tuple #[.agg #[.int .i64 0, .int .i64 0, .slice none 0 0], .slice none 0 0, .int .i64 4]) (by simp [results, Tryz.results113, go_sem, y0, y1, y2]) rfl ?_; rw [HGE.out]; exact RetSb.of (G := ⟨0, 0, []⟩) (S := []) rfl rfl (World.ownsRow_nil _ _ _ _) x6)
    ·have hCI : ¬ (1024 : Int) < (E2.length : Int) := by omega
     have HGX : Hid (sbGo G (66 - (i + 1)) (i + 1) (S2, E2) = sbGo G 66 0 ([set], [])) := by rw [Hid, HGO.out, HGN.out, if_neg (by omega), show 66 - (i + 1) = 65 - i by omega]
     clear HGN HGO
     go_wp2
     go_roundw
     case rel =>
      have hBn := (RowKit.Below.refl W2.heap.size W2).alloc (Nat.le_refl _) (.cells #[.int .i64 ((i : Int) + 1)] 3)
      exact ⟨i + 1, W2.heap.size, (S2, E2), rfl, by simpa using VRow.new W2 3 [.int .i64 ((i : Int) + 1)], hX2'.out.below hBn, HGG.out, by show i + 1 ≤ S2.length; omega, by show S2.length ≤ 64; omega, by show E2.length ≤ 1024; omega, HGX, hB2.trans (hBn.mono hB2.size), hB2.size⟩
     case measure =>
      have h1 := HFI.out
      have h2 : (W2.alloc (.cells #[.int .i64 ((i : Int) + 1)] 3)).cell? ⟨W2.heap.size, 0, none⟩ = some (.int .i64 ((i : Int) + 1)) := (VRow.new W2 3 [.int .i64 ((i : Int) + 1)]).at 0 rfl
      simp only [cellInt, h1, h2, RowKit.intOf]
      omega
  ·obtain rfl : i = st.1.length := by omega
   obtain ⟨S, E⟩ := st
   have hltI : ¬ (S.length : Int) < (S.length : Int) := by omega
   obtain ⟨pe, ce, ro, oo⟩ := hX.out
   have HGE : Hid (sbGo G 66 0 ([set], []) = some (S, E)) := by
    rw [Hid, ← hgo.out]
    have h64' : S.length ≤ 64 := h64
    show sbGo G (66 - S.length) S.length (S, E) = _
    rw [show 66 - S.length = 65 - S.length + 1 by omega]; exact sbGo_end (Nat.le_refl _)
   have s1 : wr.cell? ⟨bs, 0, none⟩ = some (.slice ps S.length cs) := s0
   have i1 : wr.cell? ⟨bi, 0, none⟩ = some (.int .i64 S.length) := fi
   have ro1 : VRow wr bo 24 [.int .i64 G.q, .int .i64 0, .slice pe E.length ce] := ro
   have e1 := ro1.at 1 rfl; have z1 := ro1.frozen 1
   have rw2 := ro1.set (i := 1) (.int .i64 S.length)
   have rs1 : VRow (wr.setCell ⟨bo, 1, none⟩ (.int .i64 S.length)) bs 47 [.slice ps S.length cs] := (KX0.set ro1 1 _ (by decide)).vrow rs
   have o9 := (KX0.set ro1 1 (.int .i64 S.length) (t := 44) (by decide)).own oo
   have hB9 := hB.setCell (p := ⟨bo, 1, none⟩) hbo0 (.int .i64 S.length)
   clear fi s0 hel hX hg os rs ro
   go_upto_region 13 with fail
   generalize wr.setCell ⟨bo, 1, none⟩ (.int .i64 S.length) = w9 at *
   have c1 := b1.below hB9 b1.lt
   have k0 := rw2.at 0 rfl; have k1 := rw2.at 1 rfl; have k2 := rw2.at 2 rfl; have k3 := rs1.at 0 rfl
   have j0 := c1.at 0 rfl; have j1 := c1.at 1 rfl; have j2 := c1.at 2 rfl
   have z0 := c1.frozen 0; have z1 := c1.frozen 1; have z2 := c1.frozen 2
   have x9 := hB0.trans (hB9.mono hB0.size)
   have r6 := VRow.set (i := 2) (.slice pe E.length ce) (VRow.set (i := 1) (.int .i64 S.length) (VRow.set (i := 0) (.int .i64 G.q) c1))
   have y0 := r6.at 0 rfl; have y1 := r6.at 1 rfl; have y2 := r6.at 2 rfl
   have hz0 : w.heap.size + 1 < w0.heap.size := b1.lt
   have o6 := ownsRow_setCell_below (a := (⟨w.heap.size + 1, 2, none⟩ : Addr)) (ownsRow_setCell_below (a := (⟨w.heap.size + 1, 1, none⟩ : Addr)) (ownsRow_setCell_below (a := (⟨w.heap.size + 1, 0, none⟩ : Addr)) o9 hz0 (.int .i64 G.q)) hz0 (.int .i64 S.length)) hz0 (.slice pe E.length ce)
   have x6 : RowKit.Below w.heap.size w (((w9.setCell (⟨w.heap.size + 1, 0, none⟩ : Addr) (.int .i64 G.q)).setCell (⟨w.heap.size + 1, 1, none⟩ : Addr) (.int .i64 S.length)).setCell (⟨w.heap.size + 1, 2, none⟩ : Addr) (.slice pe E.length ce)) :=
    ((x9.setCell (show w.heap.size ≤ w.heap.size + 1 by omega) _).setCell (show w.heap.size ≤ w.heap.size + 1 by omega) _).setCell (show w.heap.size ≤ w.heap.size + 1 by omega) _
   go_region
   all_goals
    go_wp2
    generalize ((w9.setCell (⟨w.heap.size + 1, 0, none⟩ : Addr) (.int .i64 G.q)).setCell (⟨w.heap.size + 1, 1, none⟩ : Addr) (.int .i64 S.length)).setCell (⟨w.heap.size + 1, 2, none⟩ : Addr) (.slice pe E.length ce) = wz at *
    have q0 : wz.drew.cell? ⟨w.heap.size + 1, 0, none⟩ = _ := y0
    have q1 : wz.drew.cell? ⟨w.heap.size + 1, 1, none⟩ = _ := y1
    have q2 : wz.drew.cell? ⟨w.heap.size + 1, 2, none⟩ = _ := y2
    refine bodyPost_ret (v := .tuple #[.agg #[.int .i64 G.q, .int .i64 S.length, .slice pe E.length ce], .slice ps S.length cs, .int .i64 0]) (by simp [results, Tryz.results113, go_sem, q0, q1, q2]) rfl ?_
    rw [HGE.out]
    exact RetSb.of (G := ⟨G.q, (S.length : Int), E⟩) (S := S) rfl rfl ((own_downN o6 hB0.size).dr ⟨1, rfl⟩) x6.drew
end
section
open Go.RowKit Go.Sort Go.Shelf Go.Lib
theorem upT_row (N k : Nat) (h : k < N) : ((upto k ++ List.replicate (N - k) 0).map (Value.int .i64))[k]? = some (.int .i64 0) := by
 rw [List.getElem?_map, List.getElem?_append_right (by rw [upto_len]; omega), upto_len, List.getElem?_replicate, if_pos (by omega)]
 rfl
theorem upT_set (N k : Nat) (h : k < N) : ((upto k ++ List.replicate (N - k) 0).map (Value.int .i64)).set k (.int .i64 k) = (upto (k + 1) ++ List.replicate (N - (k + 1)) 0).map (Value.int .i64) := by
 obtain ⟨m, hm⟩ : ∃ m, N - k = m + 1 := ⟨N - k - 1, by omega⟩
 rw [hm, show N - (k + 1) = m by omega, upto_succ, List.replicate_succ, List.map_append, List.set_append_right _ _ (by rw [List.length_map, upto_len]; omega), List.length_map, upto_len, Nat.sub_self]
 simp
set_option maxRecDepth 100000 in
set_option maxHeartbeats 4000000 in
theorem sBuild_any (G : Gr) (p : Option Addr) (c : Nat) (w : World) (hin : Sg 3 w edE p G.es) (hl : G.es.length ≤ 9223372036854775807) :
  Calls Tryz.prog 51 #[(.agg #[.int .i64 G.q, .int .i64 G.n, .slice p G.es.length c])] w (RetSb (sbA G) w) := by
 obtain ⟨i0, hi0, hz0, hz1, hz3⟩ := info_parts infoJ
 obtain ⟨w0, hw0⟩ : ∃ w0, w0 = (w.alloc (.cells #[.int .i64 G.q, .int .i64 G.n, .slice p G.es.length c] 24)).alloc (.cells #[.int .i64 0, .int .i64 0, .slice none 0 0] 24) := ⟨_, rfl⟩
 have b0 : VRow w0 w.heap.size 24 [.int .i64 G.q, .int .i64 G.n, .slice p G.es.length c] := by subst hw0; exact (VRow.new w _ _).alloc _
 have b1 : VRow w0 (w.heap.size + 1) 24 [.int .i64 0, .int .i64 0, .slice none 0 0] := by subst hw0; exact VRow.new1 w _ _ _
 have hB0 : RowKit.Below w.heap.size w w0 := by subst hw0; exact ((RowKit.Below.refl _ _).alloc (Nat.le_refl _) _).alloc (by simp) _
 have HIN := hidI (hin.below hB0)
 have g0 := b0.at 0 rfl; have g1 := b0.at 1 rfl; have g2 := b0.at 2 rfl
 obtain ⟨r, hr⟩ : ∃ r, chkG G = r := ⟨_, rfl⟩
 have HC := hidI (gCheck_r G p c w0 r hr HIN.out hl)
 clear hin
 by_cases hr0 : r = 0
 ·subst hr0
  have hv := chkG_ok.1 hr
  obtain ⟨N, hN⟩ : ∃ N : Nat, G.n = N := ⟨G.n.toNat, by have := hv.n1; omega⟩
  have hN64 : N ≤ 64 := by have := hv.n2; omega
  have HV := hidI hv; have HR := hidI hr
  have HN := hidI hN
  clear hr hv hN
  go_enter Tryz.func51, Tryz.ntmps51
  go_wp2_with fail
  rw [← hw0]
  clear hw0
  refine HC.out.mono ?_
  rintro e w1 ⟨rfl, hB1⟩
  have c0 := b0.below hB1 b0.lt
  have c1 := b1.below hB1 b1.lt
  have hBW := hB0.trans (hB1.mono hB0.size)
  clear g0 g1 g2
  have g0 := c0.at 0 rfl; have g1 := c0.at 1 rfl; have g2 := c0.at 2 rfl
  have j0 := c1.at 0 rfl; have j1 := c1.at 1 rfl; have j2 := c1.at 2 rfl
  have z0 := c1.frozen 0; have z1 := c1.frozen 1; have z2 := c1.frozen 2
  by_cases hn : N = 0
  ·have HK : Hid (sbA G = (⟨G.q, 0, []⟩, [], 0)) := by unfold Hid sbA; rw [if_pos HR.out, if_pos (by rw [HN.out, hn]; rfl)]
   have hn0 : (G.n == 0) = true := by rw [HN.out, hn]; rfl
   go_wp2
   (have r6 := VRow.set (i := 2) (.slice none 0 0) (VRow.set (i := 1) (.int .i64 0) (VRow.set (i := 0) (.int .i64 G.q) c1)); have y0 := r6.at 0 rfl; have y1 := r6.at 1 rfl; have y2 := r6.at 2 rfl; have x6 : RowKit.Below w.heap.size w (((w1.setCell (⟨w.heap.size + 1, 0, none⟩ : Addr) (.int .i64 G.q)).setCell (⟨w.heap.size + 1, 1, none⟩ : Addr) (.int .i64 0)).setCell (⟨w.heap.size + 1, 2, none⟩ : Addr) (.slice none 0 0)) := ((hBW.setCell (show w.heap.size ≤ w.heap.size + 1 by omega) _).setCell (show w.heap.size ≤ w.heap.size + 1 by omega) _).setCell (show w.heap.size ≤ w.heap.size + 1 by omega) _; refine bodyPost_ret (v := .tuple #[.agg #[.int .i64 G.q, .int .i64 0, (.slice none 0 0)], (.slice none 0 0), .int .i64 0]) (by simp [results, Tryz.results51, go_sem, y0, y1, y2]) rfl ?_)
   rw [HK.out]
   exact RetSb.of (G := ⟨G.q, 0, []⟩) (S := []) rfl rfl (World.ownsRow_nil _ _ _ _) x6
  ·have hnI := HN.out
   have HK : Hid (sbA G = sbR G (sbGo G 66 0 ([upto G.n.toNat], []))) := sbA_ok1 HR.out (by rw [hnI]; omega)
   have HUC : Hid (chkS G.n none (upto N) = 0) := chkS_of (upto_srt _) (fun x hx => by have := mem_upto.1 hx; have := HN.out; omega) (fun q h => by cases h)
   have HUN : Hid (upto N ≠ []) := fun e => by have := congrArg List.length e; rw [upto_len] at this; exact hn (by simpa using this)
   have HTN : Hid (G.n.toNat = N) := by rw [Hid, HN.out]; rfl
   have g1N : w1.cell? ⟨w.heap.size, 1, none⟩ = some (.int .i64 N) := by rw [← HN.out]; exact g1
   have hn0N : ((N : Int) == 0) = false := by simpa using hn
   have HB := hidI (fun W q d (hW : RowKit.Below w1.heap.size w1 W) (hs : Sl W (Value.int .i64) q (upto N)) => sbuild_any G p c (upto N) q d W (HIN.out.below (hB1.trans (hW.mono hB1.size))) hs HV.out HUC.out HUN.out)
   clear g1 hnI j0 j1 j2 z0 z1 z2
   go_upto_region 6 with (at_make; refine wpList_make_full _ rfl _ _ 30 rfl w1.heap.size 3 i0 (.int .i64 0) 1 Tryz.underlying30 hi0 hz0 hz1 .i64 .i64 _ _ N rfl rfl (by omega) (by omega) (by rw [hz3]; omega) (by unfold maxLen; omega) (Nat.le_refl _) ?_; intro w2 hown hgrow)
   have hv2 : VRow w2 w1.heap.size 3 ((upto 0 ++ List.replicate (N - 0) 0).map (Value.int .i64)) := by
    have := made_rowJ hown
    simpa [Go.Proofs.YtocbhlohcikapaaGreatDoor.upto] using this
   have hB2 : RowKit.Below w1.heap.size w1 w2 := (RowKit.Below.refl _ _).grown hgrow (Nat.le_refl _) (by simp)
   have HBD : Hid (∀ W (q : Option Addr) (d : Nat), RowKit.Below w1.heap.size w1 W → Sl W (Value.int .i64) q (upto N) → Calls Tryz.prog 113 #[(.agg #[.int .i64 G.q, .int .i64 G.n, .slice p G.es.length c]), .slice q N d] W (RetSb (sbA G) W)) := fun W q d hW hs => by
    have := HB.out W q d hW hs
    rw [upto_len] at this
    rw [HK.out, HTN.out]; exact this
   obtain ⟨sb, hsb⟩ : ∃ sb, sb = sbA G := ⟨_, rfl⟩
   rw [← hsb] at HBD
   have HSB := hidI hsb
   clear hown hgrow HB HK hsb g1N hn0N
   go_wp2
   go_loopw [22] (fun iv wr => ∃ k : Nat, k ≤ N ∧ iv = .int .i64 k ∧ VRow wr w1.heap.size 3 ((upto k ++ List.replicate (N - k) 0).map (Value.int .i64)) ∧ RowKit.Below w1.heap.size w1 wr) (fun iv _ => N - (RowKit.intOf iv).toNat)
   case atStart => exact ⟨0, by omega, rfl, hv2, hB2⟩
   case round =>
    clear hv2 hB2
    obtain ⟨k, hk, rfl, hv, hB⟩ := hrel
    by_cases hlt : k < N
    ·have hltN : (k : Int) < (N : Int) := by omega
     have hc := hv.at k (upT_row N k hlt)
     have hf := hv.frozen k
     have HS := hidI (upT_set N k hlt)
     go_wp2
     go_roundw
     case rel => exact ⟨k + 1, by omega, by go_num, by rw [← HS.out]; exact VRow.set (i := k) _ hv, hB.setCell (p := ⟨w1.heap.size, k, none⟩) (Nat.le_refl _) _⟩
     case measure => simp [RowKit.intOf]; omega
    ·obtain rfl : k = N := by omega
     have hkk : ¬ (k : Int) < (k : Int) := by omega
     rw [Nat.sub_self, List.replicate_zero, List.append_nil] at hv
     have cr := c0.below hB c0.lt
     have cs := c1.below hB c1.lt
     clear g0 g2
     have g0 := cr.at 0 rfl; have g1 := cr.at 1 rfl; have g2 := cr.at 2 rfl
     have HX := hidI (HBD.out wr _ k hB (Sl.of_vrow hv))
     go_wp2_with fail
     refine HX.out.mono ?_
     rintro e w5 ⟨p5, c5, ps5, ms5, cs5, rfl, ho5, hB5⟩
     have d1 := cs.below hB5 cs.lt
     have hBr := hBW.trans (hB.mono hBW.size)
     have hBW := hBr.trans (hB5.mono hBr.size)
     have hz : w.heap.size + 1 < wr.heap.size := cs.lt
     clear c1 cs cr g0 g1 g2 HX HBD hv hB5
     have c1 := d1
     have j0 := c1.at 0 rfl; have j1 := c1.at 1 rfl; have j2 := c1.at 2 rfl
     have z0 := c1.frozen 0; have z1 := c1.frozen 1; have z2 := c1.frozen 2
     obtain ⟨⟨qq, nn, ee⟩, S, kk⟩ := sb
     change w5.ownsRow wr.heap.size 44 3 (.slice p5 ee.length c5) ee.length (cat ee) at ho5
     have o6 := ownsRow_setCell_below (a := (⟨w.heap.size + 1, 2, none⟩ : Addr)) (ownsRow_setCell_below (a := (⟨w.heap.size + 1, 1, none⟩ : Addr)) (ownsRow_setCell_below (a := (⟨w.heap.size + 1, 0, none⟩ : Addr)) ho5 hz (.int .i64 qq)) hz (.int .i64 nn)) hz (.slice p5 ee.length c5)
     simp only
     go_wp2
     (have r6 := VRow.set (i := 2) (.slice p5 ee.length c5) (VRow.set (i := 1) (.int .i64 nn) (VRow.set (i := 0) (.int .i64 qq) c1)); have y0 := r6.at 0 rfl; have y1 := r6.at 1 rfl; have y2 := r6.at 2 rfl; have x6 : RowKit.Below w.heap.size w (((w5.setCell (⟨w.heap.size + 1, 0, none⟩ : Addr) (.int .i64 qq)).setCell (⟨w.heap.size + 1, 1, none⟩ : Addr) (.int .i64 nn)).setCell (⟨w.heap.size + 1, 2, none⟩ : Addr) (.slice p5 ee.length c5)) := ((hBW.setCell (show w.heap.size ≤ w.heap.size + 1 by omega) _).setCell (show w.heap.size ≤ w.heap.size + 1 by omega) _).setCell (show w.heap.size ≤ w.heap.size + 1 by omega) _; refine bodyPost_ret (v := .tuple #[.agg #[.int .i64 qq, .int .i64 nn, (.slice p5 ee.length c5)], (.slice ps5 ms5 cs5), .int .i64 kk]) (by simp [results, Tryz.results51, go_sem, y0, y1, y2]) rfl ?_)
     exact RetSb.of (G := ⟨qq, nn, ee⟩) (S := S) HSB.out.symm rfl (own_downN o6 hBr.size) x6
 ·have HK : Hid (sbA G = (⟨0, 0, []⟩, [], 1)) := by unfold Hid sbA; rw [if_neg (by rw [hr]; exact hr0)]
  have hrb : (r == 0) = false := by simpa using hr0
  have hrc : (r != 0) = true := by simpa using hr0
  clear hr hr0
  go_enter Tryz.func51, Tryz.ntmps51
  go_wp2_with fail
  rw [← hw0]
  clear hw0
  refine HC.out.mono ?_
  rintro e w1 ⟨rfl, hB1⟩
  have c1 := b1.below hB1 b1.lt
  have hBW := hB0.trans (hB1.mono hB0.size)
  clear g0 g1 g2
  have j0 := c1.at 0 rfl; have j1 := c1.at 1 rfl; have j2 := c1.at 2 rfl
  have z0 := c1.frozen 0; have z1 := c1.frozen 1; have z2 := c1.frozen 2
  go_wp2
  (have r6 := VRow.set (i := 2) (.slice none 0 0) (VRow.set (i := 1) (.int .i64 0) (VRow.set (i := 0) (.int .i64 0) c1)); have y0 := r6.at 0 rfl; have y1 := r6.at 1 rfl; have y2 := r6.at 2 rfl; have x6 : RowKit.Below w.heap.size w (((w1.setCell (⟨w.heap.size + 1, 0, none⟩ : Addr) (.int .i64 0)).setCell (⟨w.heap.size + 1, 1, none⟩ : Addr) (.int .i64 0)).setCell (⟨w.heap.size + 1, 2, none⟩ : Addr) (.slice none 0 0)) := ((hBW.setCell (show w.heap.size ≤ w.heap.size + 1 by omega) _).setCell (show w.heap.size ≤ w.heap.size + 1 by omega) _).setCell (show w.heap.size ≤ w.heap.size + 1 by omega) _; refine bodyPost_ret (v := .tuple #[.agg #[.int .i64 0, .int .i64 0, (.slice none 0 0)], (.slice none 0 0), .int .i64 1]) (by simp [results, Tryz.results51, go_sem, y0, y1, y2]) rfl ?_)
  rw [HK.out]
  exact RetSb.of (G := ⟨0, 0, []⟩) (S := []) rfl rfl (World.ownsRow_nil _ _ _ _) x6
end
end Go.Proofs.YtocbhlohcikapaaGreatDoor
