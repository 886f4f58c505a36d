/-
  Walks: the reversed word, and the letter turned round (door seat).
-/
import Derived.Test.YtpopaehdmeejpaaDoorWd
import Derived.Test.YtpopaehdmeejpaaDoorPlainY
import Derived.Test.YtpopaehdmeejpaaDoorShelfS
import Derived.Lib.ConvBytes
import Derived.Lib.AtoiErrMem
import Derived.Lib.OwnBridge
import Derived.Lib.SlBytesRow
namespace Go.Proofs.YtpopaehdmeejpaaDoor
open Go.RowKit

def encU : UInt8 → Value := fun b => .int .u8 b.toNat
theorem encU_one : OneCell encU := fun _ => rfl
def RetRev (s : ByteArray) (w : World) (e : Ending) (w' : World) : Prop := ∃ s' : ByteArray, e = .returned (.string s') ∧ s'.data.toList = s.data.toList.reverse ∧ Below w.heap.size w w'

theorem bytes_holds (w : World) (t : TypeId) (s : ByteArray) : Sort.Holds encU (Lib.bytesWorld w t s) w.heap.size 0 s.data.toList.toArray := by
  intro j hj
  have hj' : j < s.size := by simpa using hj
  rw [Nat.zero_add]
  constructor
  · rw [Lib.bytesWorld_cell w t s j hj', getElem!_pos _ j hj]
    unfold encU
    congr 3
    rw [List.getD_eq_getElem?_getD, List.getElem?_eq_getElem (by simpa using hj')]
    rfl
  · have h := Lib.bytesWorld_at_new w t s
    unfold World.frozen?
    simp only [h]
    have hz : s.size ≤ (Lib.bytesCells w t s).size := by simp [Lib.bytesCells]
    rw [decide_eq_false (by omega)]
    rfl
set_option maxRecDepth 100000 in
set_option maxHeartbeats 1000000 in
theorem wreverse_any (s : ByteArray) (w : World) (hs : s.size ≤ maxLen) : Calls Tryd.prog 6 #[.string s] w (RetRev s w) := by
  have hcv := Lib.run_convert_string_bytes (P := Tryd.prog) w 9 41 5 s (u := .string) Tryd.underlying9 Tryd.underlying41 Tryd.underlying5
  have hbw := Lib.bytesWorld_below w 5 s
  have hH := bytes_holds w 5 s
  have hsz := Lib.bytesWorld_size w 5 s
  generalize Lib.bytesWorld w 5 s = W1 at *
  have hl : s.data.toList.length = s.size := by simp
  have hrev := AnyE.slices_Reverse Tryd.layReverseB encU encU_one w.heap.size 0 (grownCap w s.size 0 5) s.data.toList W1 hH (by rw [hl]; unfold maxLen at hs; omega)
  rw [hl] at hrev
  have HREV := hidI hrev
  clear hrev
  go_enter Tryd.func6, Tryd.ntmps6
  go_wp2_with fail
  refine HREV.out.mono ?_
  rintro e w2 ⟨rfl, n, hw2⟩
  obtain ⟨s', hs'⟩ : ∃ s' : ByteArray, s' = ⟨s.data.toList.reverse.toArray⟩ := ⟨_, rfl⟩
  have hd' : s'.data.toList = s.data.toList.reverse := by rw [hs']
  have hsz' : s'.size = s.size := size_rev hd'
  have hH2 : Sort.Holds encU w2 w.heap.size 0 s.data.toList.reverse.toArray := by rw [hw2]; exact Sort.holds_putRow encU _ _ _ s.data.toList.toArray _ hH (by simp)
  have hby : Lib.Bytes w2 w.heap.size 0 s' := fun i hi => by
    have h := (hH2 i (by simpa using (by omega : i < s.size))).1
    rw [h, getElem!_pos _ i (by simpa using (by omega : i < s.size))]
    subst hs'
    rfl
  have hcw := Lib.run_convert_whole (P := Tryd.prog) w2 41 5 9 Tryd.underlying41 Tryd.underlying5 Tryd.underlying9 _ _ s' hby (grownCap w s.size 0 5)
  rw [hsz'] at hcw
  have hB : Below w.heap.size w w2 := by rw [hw2]; exact Lib.below_putRow hbw (Nat.le_refl _)
  have HD := hidI hd'; have HB := hidI hB
  clear hw2 hs' hd' hH hH2 hby hsz hB
  go_wp2
  go_ret
  exact ⟨s', rfl, HD.out, HB.out⟩

def turn1 (x : Int) : Int := bits BinOp.xor IntKind.i32 x 1
theorem symmetry1_any (W : World) (x : Nat) : FnGives Tryd.prog 8 #[] #[encR x] (.int .i32 (turn1 x)) W := by
  show Calls Tryd.prog 8 #[.int .i32 x] W _
  go_enter Tryd.func8, Tryd.ntmps8
  go_wp2
  go_ret
  exact ⟨rfl, 0, rfl⟩
end Go.Proofs.YtpopaehdmeejpaaDoor
