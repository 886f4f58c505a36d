/-
  Walks: the text of a graph with small numbers, of the program: the function (door seat).
-/
import Derived.Test.YtkknkbdkokdbfaaDoorHv
import Derived.Deep.RegionHeld3
namespace Go.Proofs.YtkknkbdkokdbfaaDoor
open Go.RowKit Go.Sort Go.Shelf Go.Lib

def itB (v : Int) : ByteArray := ⟨(Lib.decDigits v.toNat).toArray⟩
theorem dig_small : ∀ i, i < 100 → (Lib.decDigits i).length ≤ 2 := by decide +kernel
theorem itB_size {v : Int} (h : 0 ≤ v ∧ v < 100) : (itB v).size ≤ 1000 := by
  have := dig_small v.toNat (by omega)
  show (Lib.decDigits v.toNat).toArray.size ≤ 1000
  simp; omega
theorem itoa_any (v : Int) (h : 0 ≤ v ∧ v < 100) (w : World) : Calls Tryd.prog 64 #[.int .i64 v] w fun e w' => e = .returned (.string (itB v)) ∧ w' = w := by
  obtain ⟨i, rfl⟩ : ∃ i : Nat, v = (i : Int) := ⟨v.toNat, by omega⟩
  exact Tryd.strconv_Itoa_small i (by omega) w
def grapB : ByteArray := ⟨#[103, 114, 97, 112, 104]⟩
def edT (x : Ed) : List UInt8 := lineB [itB x.f, itB x.l, itB x.t]
/-- The text of a graph. -/
def txtG (G : Gr) : List UInt8 := lineB [grapB, itB G.q, itB G.n] ++ (G.es.map edT).flatten
theorem txt_snoc (l : List Ed) (k : Nat) (h : k < l.length) : ((l.take (k + 1)).map edT).flatten = ((l.take k).map edT).flatten ++ edT l[k] := by
  rw [List.take_succ_eq_append_getElem h, List.map_append, List.flatten_append]; simp
theorem line_size {a b c : ByteArray} (h1 : a.size ≤ 1000) (h2 : b.size ≤ 1000) (h3 : c.size ≤ 1000) : (lineB [a, b, c]).length ≤ 3003 := by
  rw [lineB_three]
  have e1 : a.data.toList.length = a.size := by simp
  have e2 : b.data.toList.length = b.size := by simp
  have e3 : c.data.toList.length = c.size := by simp
  simp only [List.length_append, List.length_cons, List.length_nil]; omega
/-- Graphs whose numbers have at most two digits. -/
structure Sm (G : Gr) : Prop where
  q : 0 ≤ G.q ∧ G.q < 100
  n : 0 ≤ G.n ∧ G.n < 100
  es : ∀ x ∈ G.es, (0 ≤ x.f ∧ x.f < 100) ∧ (0 ≤ x.l ∧ x.l < 100) ∧ (0 ≤ x.t ∧ x.t < 100)

set_option maxRecDepth 100000 in
set_option maxHeartbeats 4000000 in
theorem gPrint_small (G : Gr) (p : Option Addr) (c : Nat) (w : World) (hin : Sg 3 w edE p G.es) (hv : Vg G) (hs : Sm G) :
    Calls Tryd.prog 37 #[(.agg #[.int .i64 G.q, .int .i64 G.n, .slice p G.es.length c])] w fun e w' => e = .returned (.tuple #[.string ⟨(txtG G).toArray⟩, .int .i64 0]) ∧ RowKit.Below w.heap.size w w' := by
  have HIN := hidI hin; have HV := hidI hv; have HS := hidI hs
  have hl := hv.len
  clear hin hv hs
  have b0 : VRow (w.alloc (.cells #[.int .i64 G.q, .int .i64 G.n, .slice p G.es.length c] 24)) w.heap.size 24 [.int .i64 G.q, .int .i64 G.n, .slice p G.es.length c] := VRow.new w _ _
  have hB0 : RowKit.Below w.heap.size w (w.alloc (.cells #[.int .i64 G.q, .int .i64 G.n, .slice p G.es.length c] 24)) := (RowKit.Below.refl _ _).alloc (Nat.le_refl _) _
  go_enter Tryd.func37, Tryd.ntmps37
  go_wp2_with fail
  refine (gCheck_r G p c _ 0 (chkG_ok.2 HV.out) (HIN.out.below hB0) (by omega)).mono ?_
  rintro e w1 ⟨rfl, hB1⟩
  have x1 := hB0.trans (hB1.mono hB0.size)
  have c0 := b0.below hB1 b0.lt
  clear hB1 b0 hB0
  have hz : w.heap.size < w1.heap.size := c0.lt
  go_upto_region 5 with fail
  obtain ⟨W0, hW0⟩ : ∃ W0, W0 = w1.alloc (.cells #[.pointer none, .slice none 0 0] 87) := ⟨_, rfl⟩
  have hbd : Lib.IsBuilderF 87 5 w1.heap.size w1.heap.size (Lib.byteCells []) W0 := by
    subst hW0
    exact Lib.IsBuilderF.of (.inl ⟨Nat.le_refl _, .slice none 0 0, World.alloc_heap_new _ _, World.ownsRow_nil _ _ _ _, by simp [Value.ownBlock]⟩)
  have d0 : VRow W0 w.heap.size 24 [.int .i64 G.q, .int .i64 G.n, .slice p G.es.length c] := by subst hW0; exact c0.alloc _
  have y2 : RowKit.Below w1.heap.size w1 W0 := by subst hW0; exact (RowKit.Below.refl _ _).alloc (Nat.le_refl _) _
  rw [← hW0]
  clear hW0
  have HBD := hidI hbd
  have f0 := d0.at 0 rfl; have f1 := d0.at 1 rfl
  have HK0 : Hid (∀ V, RowKit.Below w1.heap.size W0 V → V.cell? ⟨w.heap.size, 0, none⟩ = some (.int .i64 G.q) ∧ V.cell? ⟨w.heap.size, 1, none⟩ = some (.int .i64 G.n) ∧ RowKit.Below w1.heap.size W0 V) := fun V h =>
    have h' := d0.below h hz
    ⟨h'.at 0 rfl, h'.at 1 rfl, h⟩
  clear hbd
  go_cut [20] (fun s20 wx => Lib.IsBuilderF 87 5 w1.heap.size w1.heap.size (Lib.byteCells (lineB [grapB, itB G.q, itB G.n])) wx ∧ RowKit.Below w1.heap.size w1 wx)
  case first =>
    have HD1 : RowKit.Below W0.heap.size W0 W0.drew := (RowKit.Below.refl _ _).drew
    go_region_held3 (fun V => V.cell? ⟨w.heap.size, 0, none⟩ = some (.int .i64 G.q) ∧ V.cell? ⟨w.heap.size, 1, none⟩ = some (.int .i64 G.n) ∧ RowKit.Below w1.heap.size W0 V)
      ((go_split_ands; refine HK0.out _ ?_; first
        | assumption
        | exact (RowKit.Below.refl _ _).drew
        | exact RowKit.Below.trans (by assumption) hB3
        | exact RowKit.Below.alloc (by assumption) (Nat.le_trans y2.size (RowKit.Below.size (by assumption))) _
        | fail))
      (first
        | (go_at_call_of 64 (Value.int .i64 G.q); go_split_ands; refine (itoa_any G.q HS.out.q _).mono ?_; rintro e w' ⟨rfl, rfl⟩)
        | (go_at_call_of 64 (Value.int .i64 G.n); go_split_ands; refine (itoa_any G.n HS.out.n _).mono ?_; rintro e w' ⟨rfl, rfl⟩)
        | (go_at_call 61; go_split_ands; refine (gLine_any w1.heap.size w1.heap.size W0.heap.size 3 [] grapB (itB G.q) (itB G.n) _ (by exact HBD.out.alloc _) (by exact VRow.new W0 9 [.string grapB, .string (itB G.q), .string (itB G.n)]) (Nat.le_refl _) (by decide) (itB_size HS.out.q) (itB_size HS.out.n) (by simp) (by exact Nat.le_trans y2.size (by simp))).mono ?_; rintro e w3 ⟨rfl, HB3, hB3, kt3⟩)
        | fail)
    all_goals (go_wp2_with fail; go_meet; exact ⟨HB3, y2.trans ((((RowKit.Below.refl _ _).alloc y2.size _).drew).trans hB3)⟩)
  case rest =>
    obtain ⟨hbd, hB2⟩ := hcut
    have d2 := (c0.below hB2 hz).at 2 rfl
    clear f0 f1 d0 HBD y2
    go_wp2
    go_loopw [24] (fun iv wr => ∃ k : Nat, k ≤ G.es.length ∧ iv = .int .i64 k ∧ Lib.IsBuilderF 87 5 w1.heap.size w1.heap.size (Lib.byteCells (lineB [grapB, itB G.q, itB G.n] ++ ((G.es.take k).map edT).flatten)) wr ∧ RowKit.Below w1.heap.size w1 wr ∧ Hid ((lineB [grapB, itB G.q, itB G.n] ++ ((G.es.take k).map edT).flatten).length ≤ 3003 * (k + 1))) (fun iv _ => G.es.length - (intOf iv).toNat)
    case atStart => exact ⟨0, by omega, rfl, by simpa using hbd, hB2, by unfold Hid; have := line_size (a := grapB) (by decide) (itB_size HS.out.q) (itB_size HS.out.n); simpa using this⟩
    case round =>
      obtain ⟨k, hk, rfl, hbk, hB, HL⟩ := hrel
      have HBK := hidI hbk
      clear hbk
      by_cases hlt : k < G.es.length
      · obtain ⟨b3, o3, rfl, hb3, e0, e1, e2⟩ := (HIN.out.below (x1.trans (hB.mono x1.size))).get3 k hlt rfl
        have HT : Hid (lineB [grapB, itB G.q, itB G.n] ++ ((G.es.take (k + 1)).map edT).flatten = (lineB [grapB, itB G.q, itB G.n] ++ ((G.es.take k).map edT).flatten) ++ edT G.es[k]) := by
          unfold Hid; rw [txt_snoc G.es k hlt, List.append_assoc]
        have HX := hidI (HS.out.es G.es[k] (List.getElem_mem hlt))
        have hbz := hB.size
        generalize lineB [grapB, itB G.q, itB G.n] ++ ((G.es.take k).map edT).flatten = M at *
        generalize G.es[k] = x at *
        go_upto_region 9 with fail
        obtain ⟨W1, hW1⟩ : ∃ W1, W1 = wr.alloc (.cells #[.int .i64 x.f, .int .i64 x.l, .int .i64 x.t] 34) := ⟨_, rfl⟩
        have y0 : VRow W1 wr.heap.size 34 [.int .i64 x.f, .int .i64 x.l, .int .i64 x.t] := by subst hW1; exact VRow.new wr _ _
        have HB1 : Hid (Lib.IsBuilderF 87 5 w1.heap.size w1.heap.size (Lib.byteCells M) W1) := by subst hW1; exact HBK.out.alloc _
        have hb1 : RowKit.Below w1.heap.size w1 W1 := by subst hW1; exact hB.alloc hbz _
        rw [← hW1]
        clear hW1 e0 e1 e2
        have g0 := y0.at 0 rfl; have g1 := y0.at 1 rfl; have g2 := y0.at 2 rfl
        have hzz := hb1.size
        have HK1 : Hid (∀ V, KT W1 V → V.cell? ⟨wr.heap.size, 0, none⟩ = some (.int .i64 x.f) ∧ V.cell? ⟨wr.heap.size, 1, none⟩ = some (.int .i64 x.l) ∧ V.cell? ⟨wr.heap.size, 2, none⟩ = some (.int .i64 x.t) ∧ KT W1 V) := fun V h =>
          have h' := h.vrow y0
          ⟨h'.at 0 rfl, h'.at 1 rfl, h'.at 2 rfl, h⟩
        go_region_held3 (fun V => V.cell? ⟨wr.heap.size, 0, none⟩ = some (.int .i64 x.f) ∧ V.cell? ⟨wr.heap.size, 1, none⟩ = some (.int .i64 x.l) ∧ V.cell? ⟨wr.heap.size, 2, none⟩ = some (.int .i64 x.t) ∧ KT W1 V)
          ((go_split_ands; refine HK1.out _ ?_; first
            | assumption
            | exact KT.below (RowKit.Below.refl _ _).drew
            | exact KT.trans (by assumption) kt3
            | exact KT.trans (by assumption) (KT.below ((RowKit.Below.refl _ _).alloc (Nat.le_refl _) _))
            | exact KT.trans (by assumption) (KT.below ((RowKit.Below.refl _ _).alloc (Nat.le_refl _) _).drew)
            | fail))
          (first
            | (go_at_call_of 64 (Value.int .i64 x.f); go_split_ands; refine (itoa_any x.f HX.out.1 _).mono ?_; rintro e w' ⟨rfl, rfl⟩)
            | (go_at_call_of 64 (Value.int .i64 x.l); go_split_ands; refine (itoa_any x.l HX.out.2.1 _).mono ?_; rintro e w' ⟨rfl, rfl⟩)
            | (go_at_call_of 64 (Value.int .i64 x.t); go_split_ands; refine (itoa_any x.t HX.out.2.2 _).mono ?_; rintro e w' ⟨rfl, rfl⟩)
            | (go_at_call 61; go_split_ands; refine (gLine_any w1.heap.size w1.heap.size W1.heap.size 3 M (itB x.f) (itB x.l) (itB x.t) _ (by exact HB1.out.alloc _) (by exact VRow.new W1 9 [.string (itB x.f), .string (itB x.l), .string (itB x.t)]) (Nat.le_refl _) (itB_size HX.out.1) (itB_size HX.out.2.1) (itB_size HX.out.2.2) (by have := HL.out; omega) (by exact Nat.le_trans hzz (by simp))).mono ?_; rintro e w3 ⟨rfl, HB3, hB3, kt3⟩)
            | fail)
        all_goals
          have hB4 := hb1.trans ((((RowKit.Below.refl _ _).alloc hzz _).drew).trans hB3)
          go_wp2
          go_roundw
          case rel => exact ⟨k + 1, by omega, by go_num, by rw [HT.out]; exact HB3, hB4, by rw [Hid, HT.out, List.length_append]; have := line_size (itB_size HX.out.1) (itB_size HX.out.2.1) (itB_size HX.out.2.2); have := HL.out; unfold edT; omega⟩
          case measure => simp [intOf]; omega
      · obtain rfl : k = G.es.length := by omega
        rw [List.take_length] at HBK
        have hbz := hB.size
        go_wp2_with (go_at_call 65; refine (Tryd.Builder_String_any_f w1.heap.size w1.heap.size _ wr HBK.out hbz).mono ?_; rintro e w4 ⟨rfl, hbd4, hB4⟩)
        go_ret2
        exact ⟨rfl, x1.trans ((hB.trans hB4).mono x1.size)⟩
end Go.Proofs.YtkknkbdkokdbfaaDoor
