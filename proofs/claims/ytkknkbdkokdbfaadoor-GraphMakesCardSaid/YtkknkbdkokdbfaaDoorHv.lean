/-
  Walks: the text of a graph with small numbers, of the program (door seat).
-/
import Derived.Test.YtkknkbdkokdbfaaDoorHb
import Derived.Test.YtkknkbdkokdbfaaDoorGb
import Derived.Test.YtkknkbdkokdbfaaDoorShelf
namespace Go.Proofs.YtkknkbdkokdbfaaDoor
open Go.RowKit Go.Sort Go.Shelf Go.Lib

theorem isb_below {T e : TypeId} {B b : Nat} {bs : List Value} {w w' : World} (h : Lib.IsBuilderF T e B b bs w) (hb : RowKit.Below w.heap.size w w') : Lib.IsBuilderF T e B b bs w' := by
  have key : ∀ p, Lib.BuilderAtF T e B b p bs w → Lib.BuilderAtF T e B b p bs w' := by
    rintro p ⟨hB, v, hbk, hown, hne⟩
    refine ⟨hB, v, (hb.block b (Array.getElem?_eq_some_iff.1 hbk).1).trans hbk, ⟨hown.1, ?_⟩, hne⟩
    rcases hown.2 with h0 | ⟨g, cap, cur, fz, e1, e2, e3, e4⟩
    · exact .inl h0
    · exact .inr ⟨g, cap, cur, fz, e1, e2, (hb.block g (Array.getElem?_eq_some_iff.1 e3).1).trans e3, e4⟩
  rcases h with h | h
  · exact .inl (key _ h)
  · exact .inr (key _ h)
/-- A line of words. -/
def lineB (xs : List ByteArray) : List UInt8 := Lib.join (xs.map (·.data.toList)) [32] ++ [10]
theorem lineB_three (a b c : ByteArray) : lineB [a, b, c] = a.data.toList ++ [32] ++ b.data.toList ++ [32] ++ c.data.toList ++ [10] := by
  simp [lineB, Lib.join, List.intercalate, List.intersperse]
theorem bc_app (o : List UInt8) (s : ByteArray) : Lib.byteCells o ++ Lib.strCells s = Lib.byteCells (o ++ s.data.toList) := by simp [Lib.byteCells, Lib.strCells]

set_option maxRecDepth 100000 in
set_option maxHeartbeats 1000000 in
theorem gLine_any (B b bk c : Nat) (bs : List UInt8) (s1 s2 s3 : ByteArray) (w : World) (h : Lib.IsBuilderF 87 5 B b (Lib.byteCells bs) w) (hw : VRow w bk 9 [.string s1, .string s2, .string s3]) (hc : 3 ≤ c)
    (h1 : s1.size ≤ 1000) (h2 : s2.size ≤ 1000) (h3 : s3.size ≤ 1000) (hl : bs.length ≤ 100000000) (hB : B ≤ w.heap.size) :
    Calls Tryd.prog 61 #[.slice (some ⟨bk, 0, none⟩) 3 c, .pointer (some ⟨b, 0, none⟩)] w fun e w' => e = .returned (.tuple #[]) ∧ Lib.IsBuilderF 87 5 B b (Lib.byteCells (bs ++ lineB [s1, s2, s3])) w' ∧ RowKit.Below B w w' ∧ KT w w' := by
  have e1 : s1.data.toList.length = s1.size := by simp
  have e2 : s2.data.toList.length = s2.size := by simp
  have e3 : s3.data.toList.length = s3.size := by simp
  have hJ : (Lib.join ([s1, s2, s3].map (·.data.toList)) [32]).length ≤ 10000 := by
    have := congrArg List.length (lineB_three s1 s2 s3)
    unfold lineB at this
    simp only [List.length_append, List.length_cons, List.length_nil] at this
    omega
  have hj := Tryd.strings_Join bk 0 c [s1, s2, s3] ⟨#[32]⟩ w (fun j x hx => by
    rw [Nat.zero_add]
    refine hw.at j ?_
    match j, hx with
    | 0, hx => simp at hx ⊢; exact hx
    | 1, hx => simp at hx ⊢; exact hx
    | 2, hx => simp at hx ⊢; exact hx
    | j + 3, hx => simp at hx) hw.lt (by simp) hc (by show (Lib.join ([s1, s2, s3].map (·.data.toList)) [32]).length ≤ _; omega)
  obtain ⟨X, hX⟩ : ∃ X, Lib.join ([s1, s2, s3].map (·.data.toList)) [32] = X := ⟨_, rfl⟩
  have HS : Hid (lineB [s1, s2, s3] = X ++ [10]) := by rw [← hX]; rfl
  have HJ : Hid (Calls Tryd.prog 63 #[.slice (some ⟨bk, 0, none⟩) 3 c, .string ⟨#[32]⟩] w fun e w' => e = .returned (.string ⟨X.toArray⟩) ∧ RowKit.Below w.heap.size w w') := by rw [← hX]; exact hj
  rw [hX] at hJ
  clear hj e1 e2 e3 hX
  go_enter Tryd.func61, Tryd.ntmps61
  go_wp2_with fail
  refine HJ.out.mono ?_
  rintro e w1 ⟨rfl, hB1⟩
  have g1 := isb_below h hB1
  have hz := hB1.size
  go_wp2_with fail
  refine (bwrite_any B b (Lib.byteCells bs) ((⟨X.toArray⟩ : ByteArray) ++ (⟨#[10]⟩ : ByteArray)) w1 g1 ?_ (Nat.le_trans hB hz)).mono ?_
  · have z1 : (⟨X.toArray⟩ : ByteArray).size = X.length := by simp [ByteArray.size]
    have z2 : (⟨#[10]⟩ : ByteArray).size = 1 := rfl
    simp [Lib.byteCells]; omega
  rintro e w2 ⟨rfl, hA, hB2, kt⟩
  go_wp2
  go_end0
  refine ⟨rfl, ?_, (hB1.mono hB).trans hB2, (KT.below hB1).trans kt⟩
  rw [HS.out]
  have : Lib.byteCells bs ++ Lib.strCells ((⟨X.toArray⟩ : ByteArray) ++ (⟨#[10]⟩ : ByteArray)) = Lib.byteCells (bs ++ (X ++ [10])) := by rw [bc_app]; simp
  rw [← this]
  exact .inr hA
end Go.Proofs.YtkknkbdkokdbfaaDoor
