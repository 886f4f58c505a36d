/-
  Walks: what the sequence of the edges that leave a state yields, where a round keeps the state's cell and all that lay below a block (door seat).
-/
import Derived.Test.YtkknkbdkokdbfaaDoorHm
namespace Go.Proofs.YtkknkbdkokdbfaaDoor
open Go.RowKit Go.Shelf
attribute [local go_sem] Oper.semAt_some

/-- All blocks below m, and block B, are as they were. -/
def KS (m B : Nat) (W W' : World) : Prop := ∀ i, (i < m ∨ i = B) → W'.heap[i]? = W.heap[i]?
theorem KS.refl (m B : Nat) (W : World) : KS m B W W := fun _ _ => rfl
theorem KS.trans {m B : Nat} {X Y Z : World} (h : KS m B X Y) (k : KS m B Y Z) : KS m B X Z := fun i h1 => (k i h1).trans (h i h1)
theorem KS_b {m B n : Nat} (hm : m ≤ n) (hB : B < n) (W : World) (l : Nat) (o o' : Obj) (hl : n ≤ l) (_ : W.heap[l]? = some o) (_ : o.isCells = false) (_ : o.isWalk = false) : KS m B W (W.putObj l o') :=
  fun i h1 => World.putObj_heap_other (by omega)
theorem KS.boxed {m B : Nat} {t : TypeId} {v : Value} {W W' : World} (h : KS m B W W') (hb : Boxed W B t v) : Boxed W' B t v := (h B (.inr rfl)).trans hb
theorem KS.low {m B : Nat} {W W' : World} (h : KS m B W W') : ∀ i, i < m → W'.heap[i]? = W.heap[i]? := fun i hi => h i (.inl hi)

set_option maxRecDepth 100000 in
set_option maxHeartbeats 1000000 in
theorem leavingS_in (F : Fence) (n : Nat) (hf : F.fn 70) (hro : F.round = none) (hn : 1 ≤ n) (l m Bg Bs : Nat) (G : Gr) (s : Int) (p : Option Addr) (c : Nat) (hlen : G.es.length ≤ 1024) (J Jx : List (Nat × Ed) → World → Prop)
    (hA : ∀ pre W o, J pre W → J pre (W.alloc o))
    (hY : ∀ pre x W, J pre W → pre.length < G.es.length → YieldAt F (n - 1) Tryd.prog l (encL x) W fun e W' =>
      (e = .returned (.bool true) ∧ J (pre ++ [x]) W' ∧ KS m Bs W W') ∨ (e = .returned (.bool false) ∧ Jx (pre ++ [x]) W'))
    (W : World) (hmb : m ≤ Bs) (hg : VRow W Bg 24 [.int .i64 G.q, .int .i64 G.n, .slice p G.es.length c]) (hs : Boxed W Bs 3 (.int .i64 s)) (hin : SgB m W p G.es) (h0 : J [] W) :
    CallsIn F n Tryd.prog 70 #[.func (.yield l) #[] #[], .pointer (some ⟨Bg, 0, none⟩), .pointer (some ⟨Bs, 0, none⟩)] W fun e W' => (∃ v, e = .returned v) ∧
      ((∃ ys : List (Nat × Ed), ys = lvL G.es s G.es.length ∧ J ys W') ∨ (∃ pre : List (Nat × Ed), True ∧ Jx pre W')) := by
  refine callsIn_of_wp Tryd.func70 rfl hf ?_ hro
  simp only [Tryd.ntmps70, List.size_toArray, List.length_cons, List.length_nil, Nat.reduceAdd, Nat.reduceSub, Array.replicate_succ, Array.replicate_zero, List.push_toArray, List.append_toArray, List.nil_append, List.cons_append]
  have f2 := hg.at 2 rfl
  gi_wp2
  clear f2
  gi_loopw [9] (fun i wr => ∃ (k : Nat) (pre : List (Nat × Ed)), k ≤ G.es.length ∧ i = .int .i64 k ∧ Hid (pre = lvL G.es s k) ∧ J pre wr ∧ Boxed wr Bs 3 (.int .i64 s) ∧ SgB m wr p G.es) (fun i _ => G.es.length - (intOf i).toNat)
  case atStart => exact ⟨0, [], Nat.zero_le _, rfl, rfl, h0, hs, hin⟩
  case round =>
    obtain ⟨k, pre, hk, rfl, hp, hJs, hnx, hsg⟩ := hrel
    by_cases hlt : k < G.es.length
    · have hpl : pre.length < G.es.length := by rw [hp.out]; have := lvL_len G.es s k; omega
      obtain ⟨b3, o3, rfl, hb3, e0, e1, e2⟩ := hsg.sg.get3 k hlt rfl
      have HN := hidI (lvL_succ (s := s) hlt)
      have hnA := hnx.alloc (.cells #[.int .i64 G.es[k].f, .int .i64 G.es[k].l, .int .i64 G.es[k].t] 34)
      have hgA := hsg.alloc (by have := hnx.lt; omega) (.cells #[.int .i64 G.es[k].f, .int .i64 G.es[k].l, .int .i64 G.es[k].t] 34)
      have hJA := hA pre wr (.cells #[.int .i64 G.es[k].f, .int .i64 G.es[k].l, .int .i64 G.es[k].t] 34) hJs
      have HY := hidI (hY pre (k, G.es[k]) (wr.alloc (.cells #[.int .i64 G.es[k].f, .int .i64 G.es[k].l, .int .i64 G.es[k].t] 34)) hJA hpl)
      have hbs := hnA.cell
      generalize hx : G.es[k] = x at *
      by_cases he : x.f = s
      · have hb : (x.f == s) = true := by simpa using he
        have HN : Hid (lvL G.es s (k + 1) = lvL G.es s k ++ [(k, x)]) := by rw [Hid, HN.out, if_pos he]
        obtain ⟨fn, tmps, assign, body, hy, hR⟩ := HY.out
        unfold encL at hy
        simp only at hy
        clear he
        gi_wp2
        refine hR.mono ?_
        rintro e W3 (⟨rfl, hJ3, hk3⟩ | ⟨rfl, hJx3⟩)
        · gi_wp2
          go_roundw
          case rel => exact ⟨k + 1, _, by omega, by go_num, by unfold Hid; rw [HN.out, ← hp.out], hJ3, hk3.boxed hnA, hgA.kept hk3.low⟩
          case measure => simp [intOf]; omega
        · gi_wp2
          refine bodyPost_ret (results_none rfl _ _ _) rfl ?_
          exact ⟨⟨_, rfl⟩, .inr ⟨_, trivial, hJx3⟩⟩
      · have hb : (x.f == s) = false := by simpa using he
        have HN : Hid (lvL G.es s (k + 1) = lvL G.es s k) := by rw [Hid, HN.out, if_neg he, List.append_nil]
        clear he
        gi_wp2
        rename_i K1 hK1 x1 h1 w1 e1
        refine ⟨fun f hf => (by cases hf), hK1 _ _ ?_⟩
        clear e1
        gi_wp2
        go_roundw
        case rel => exact ⟨k + 1, _, by omega, by go_num, by unfold Hid; rw [HN.out, ← hp.out], hJA, hnA, hgA⟩
        case measure => simp [intOf]; omega
    · obtain rfl : k = G.es.length := by omega
      gi_wp2
      go_end0
      exact ⟨⟨_, rfl⟩, .inl ⟨_, hp.out, hJs⟩⟩

/-- The sequence, as the law of the loop takes it. -/
theorem leavingS_stops (F : Fence) (n : Nat) (hf : F.fn 70) (hro : F.round = none) (hn : 1 ≤ n) (m Bg Bs : Nat) (G : Gr) (s : Int) (p : Option Addr) (c : Nat) (hlen : G.es.length ≤ 1024) (w : World)
    (hmb : m ≤ Bs) (hg : VRow w Bg 24 [.int .i64 G.q, .int .i64 G.n, .slice p G.es.length c]) (hs : Boxed w Bs 3 (.int .i64 s)) (hin : SgB m w p G.es) :
    SeqStopsK F n Tryd.prog 70 #[.pointer (some ⟨Bg, 0, none⟩), .pointer (some ⟨Bs, 0, none⟩)] encL (KS m Bs) (fun ys => ys = lvL G.es s G.es.length) (fun _ => True) G.es.length w := fun l J Jx W hW hJ _ hY h0 =>
  leavingS_in F n hf hro hn l m Bg Bs G s p c hlen J Jx (fun pre W o h => hJ pre W _ none h (World.grownBy_alloc W o none) (fun r e => by cases e)) hY W hmb (hg.below hW hg.lt) ((KH.of_below hW hs.lt).boxed hs) (hin.kept (fun i hi => hW.block i (by have := hs.lt; omega))) h0
end Go.Proofs.YtkknkbdkokdbfaaDoor
