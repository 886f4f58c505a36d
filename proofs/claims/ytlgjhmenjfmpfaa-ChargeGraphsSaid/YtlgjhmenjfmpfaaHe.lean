/-
  Walks: the maps of Essential, and its closure that tells which states are left out (door seat).
-/
import Derived.Test.YtlgjhmenjfmpfaaMap
import Derived.Test.YtlgjhmenjfmpfaaGa
import Derived.Test.YtlgjhmenjfmpfaaGq
import Derived.Shelf.SlicesE.DeleteFunc
namespace Go.Proofs.Ytlgjhmenjfmpfaa
open Go.RowKit Go.Sort Go.Shelf Go.Lib

def okI (a : Int) : Prop := (Lit.int .i64 a).wf = true
theorem okI_of {a : Int} (h0 : 0 ≤ a) (h1 : a ≤ 1000000) : okI a := WalkArith.wf_i64 (by omega)
theorem keyI : KeyBy Try.prog 3 (Value.int .i64) okI where
  law := Maps.int_keyed Try.underlying3
  reads := fun a ha => ⟨.int .i64 a, by simp [keyOf, mapKey, Try.underlying3]; exact ha⟩
  inj := fun a b _ _ h => by simpa using h
theorem zeroBl (w : World) : (zeroValue 4).run Try.prog w = .ok (.bool false) w := by kernel_rfl
/-- Block b is a map of numbers in which those that f names are true. -/
def MapB (w : World) (b : Nat) (f : Int → Bool) : Prop := Mp (Value.int .i64) okI Value.bool w b (fun a => if f a = true then some true else none)
theorem MapB.congr {w : World} {b : Nat} {f g : Int → Bool} (h : MapB w b f) (e : ∀ a, f a = g a) : MapB w b g := by
  have : f = g := funext e
  exact this ▸ h
theorem MapB.look {w : World} {b : Nat} {f : Int → Bool} (h : MapB w b f) (a : Int) (ha : okI a) : (Instr.lookup 84 (.map (some b)) (.int .i64 a) false).run Try.prog w = .ok (.bool (f a)) w := by
  have := Mp.look h keyI Try.underlying84 (zeroBl w) a ha false
  rw [this]
  cases f a <;> rfl

set_option maxRecDepth 100000 in
set_option maxHeartbeats 1000000 in
/-- The closure: a state is left out if no edge leads to it, or none leaves it. -/
theorem gEss1_gives (f g : Int → Bool) (b1 b2 m1 m2 : Nat) (W : World) (x : Int) (hx : okI x) (h1 : W.cell? ⟨b1, 0, none⟩ = some (.map (some m1))) (h2 : W.cell? ⟨b2, 0, none⟩ = some (.map (some m2))) (hf : MapB W m1 f) (hg : MapB W m2 g) :
    FnGives Try.prog 64 #[.pointer (some ⟨b1, 0, none⟩), .pointer (some ⟨b2, 0, none⟩)] #[.int .i64 x] (.bool (!(f x && g x))) W := by
  show Calls Try.prog 64 #[.int .i64 x, .pointer (some ⟨b1, 0, none⟩), .pointer (some ⟨b2, 0, none⟩)] W _
  have l1 := hf.look x hx
  have l2 := hg.look x hx
  clear hf hg hx
  generalize f x = u at *
  generalize g x = v at *
  go_enter Try.func64, Try.ntmps64
  cases u
  · go_wp2
    go_ret
    exact ⟨rfl, 0, rfl⟩
  · cases v
    · go_wp2
      go_ret
      exact ⟨rfl, 0, rfl⟩
    · go_wp2
      go_ret
      exact ⟨rfl, 0, rfl⟩
end Go.Proofs.Ytlgjhmenjfmpfaa
