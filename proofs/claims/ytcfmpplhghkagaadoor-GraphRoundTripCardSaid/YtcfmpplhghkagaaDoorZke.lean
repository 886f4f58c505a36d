/-
  Words, plain lemmas and walks, merged: Hu, Hb, Hv, Hw, Hg, Hm, Hx, La, Law, Jq, Ja, Jb.
-/
import Derived.Test.YtcfmpplhghkagaaDoorZkd
import Derived.Test.YtcfmpplhghkagaaDoorZka
import Derived.Shelf.Strings.BuilderF
import Derived.Lib.OthersKept
import Derived.Test.YtcfmpplhghkagaaDoorZkc
import Derived.Deep.RegionHeld3
import Derived.Test.YtcfmpplhghkagaaDoorZkb
import Derived.RangeFuncNested
import Derived.RangeFuncBound
import Derived.RangeFuncCalls
import Derived.RangeFuncLeaves
import Derived.Shelf.Abstract
import Derived.Shelf.RegionOpen
import Derived.OwnWalkIn
import Derived.TacticsInMore
import Derived.LoopNIn
import Derived.LoopIn
import Derived.Test.YtcfmpplhghkagaaDoorProg
import Derived.Test.YtcfmpplhghkagaaDoorRows
import Derived.ProofKit
import Derived.OpenShut
import Derived.ShutString
import Derived.SliceStrings
import Derived.Test.YtcfmpplhghkagaaDoorTie
import Derived.Test.YtcfmpplhghkagaaDoorCards
import Derived.Lib.SmallJoins
import Derived.Deep.Slices
import Derived.Deep.Fields
import Derived.ChangeSame
import Derived.LaidMore
import Derived.SevenTiedAt
import Derived.Lib.SplitLaws
import Derived.Lib.IndexBytes
import Derived.Lib.ItoaNum
set_option linter.unusedVariables false
set_option linter.unusedSimpArgs false
namespace Go.Proofs.YtcfmpplhghkagaaDoor
open Go.RowKit Go.Sort Go.Shelf Go.Lib

/-- The states that edges of the part enter, and those that they leave, among the first k edges. -/
def enE (es : List Ed) (st : List Int) (k : Nat) (a : Int) : Bool := (es.take k).any (fun x => (decide (x.f ∈ st) && decide (x.t ∈ st)) && decide (a = x.t))
def lfE (es : List Ed) (st : List Int) (k : Nat) (a : Int) : Bool := (es.take k).any (fun x => (decide (x.f ∈ st) && decide (x.t ∈ st)) && decide (a = x.f))
theorem enE_hit {es : List Ed} {st : List Int} {k : Nat} (h : k < es.length) (h1 : es[k].f ∈ st ∧ es[k].t ∈ st) (a : Int) : enE es st (k + 1) a = (decide (a = es[k].t) || enE es st k a) := by
  unfold enE; rw [any_snoc _ _ _ h]; simp [h1.1, h1.2, Bool.or_comm]
theorem lfE_hit {es : List Ed} {st : List Int} {k : Nat} (h : k < es.length) (h1 : es[k].f ∈ st ∧ es[k].t ∈ st) (a : Int) : lfE es st (k + 1) a = (decide (a = es[k].f) || lfE es st k a) := by
  unfold lfE; rw [any_snoc _ _ _ h]; simp [h1.1, h1.2, Bool.or_comm]
theorem enE_miss {es : List Ed} {st : List Int} {k : Nat} (h : k < es.length) (h1 : ¬ (es[k].f ∈ st ∧ es[k].t ∈ st)) (a : Int) : enE es st (k + 1) a = enE es st k a := by
  unfold enE; rw [any_snoc _ _ _ h]
  have : (decide (es[k].f ∈ st) && decide (es[k].t ∈ st)) = false := by simpa using h1
  rw [this]; simp
theorem lfE_miss {es : List Ed} {st : List Int} {k : Nat} (h : k < es.length) (h1 : ¬ (es[k].f ∈ st ∧ es[k].t ∈ st)) (a : Int) : lfE es st (k + 1) a = lfE es st k a := by
  unfold lfE; rw [any_snoc _ _ _ h]
  have : (decide (es[k].f ∈ st) && decide (es[k].t ∈ st)) = false := by simpa using h1
  rw [this]; simp
theorem essS_maps (es : List Ed) (st : List Int) : (st.filter fun x => enE es st es.length x && lfE es st es.length x) = essS es st := by
  refine List.filter_congr (fun a ha => ?_)
  unfold enE lfE essP cmsE goesE
  rw [List.take_length]
  congr 1
  · refine congrArg (fun f => es.any f) (funext fun x => ?_)
    by_cases e : a = x.t
    · subst e; simp [ha]
    · have e' : ¬ x.t = a := fun h => e h.symm
      simp [e, e']
  · refine congrArg (fun f => es.any f) (funext fun x => ?_)
    by_cases e : a = x.f
    · subst e; simp [ha]
    · have e' : ¬ x.f = a := fun h => e h.symm
      simp [e, e']
theorem MapB.made (w : World) : MapB (w.alloc (.map #[] 0)) w.heap.size (fun _ => false) := Mp.congr (Mp.made w) (fun _ => rfl)
theorem MapB.alloc {w : World} {b : Nat} {f : Int → Bool} (h : MapB w b f) (o : Obj) : MapB (w.alloc o) b f := Mp.alloc h o
theorem MapB.dr {w w' : World} {b : Nat} {f : Int → Bool} (h : MapB w b f) (hD : Dr w w') : MapB w' b f := by obtain ⟨k, rfl⟩ := hD; exact h
theorem MapB.store {w : World} {b : Nat} {f : Int → Bool} (h : MapB w b f) (a : Int) (ha : okI a) :
    ∃ w', (Instr.mapUpdate 67 (.map (some b)) (.int .i64 a) (.bool true)).run Tryd.prog w = .ok () w' ∧ MapB w' b (fun y => decide (y = a) || f y) ∧ w.grownBy w' (some b) := by
  obtain ⟨w', h1, h2, h3⟩ := Mp.store h keyI Tryd.underlying67 a ha true
  refine ⟨w', h1, Mp.congr h2 (fun y => ?_), h3.grown⟩
  unfold mset
  by_cases e : y = a <;> simp [e]
def slLen : Value → Nat | .slice _ n _ => n | _ => 0
theorem cell_at_kept {w w' : World} {p : Addr} {u : Value} {row : Option Nat} (hg : w.grownBy w' row) (hc : w.cell? p = some u) (hne : some p.block ≠ row) : w'.cell? p = some u :=
  (World.cell?_of_block (w := w) (a := p) (hg.block p.block (World.block_lt_of_cell? w _ hc) hne)).trans hc
/-- The essential part, its states and an error, in memory of the call's own. -/
def RetEs (G : Gr) (l : List Int) (k : Int) (w : World) (e : Ending) (w' : World) : Prop :=
  ∃ p m c q d, e = .returned (.tuple #[.agg #[.int .i64 G.q, .int .i64 G.n, .slice p m c], .slice q l.length d, .int .i64 k]) ∧ w'.ownsRow w.heap.size 40 3 (.slice p m c) G.es.length (cat G.es) ∧
    w'.ownsRow w.heap.size 3 1 (.slice q l.length d) l.length (l.map (Value.int .i64)) ∧ RowKit.Below w.heap.size w w'
theorem RetEs.of {x : Gr × List Int × Int} {G : Gr} {l : List Int} {k : Int} {w w' : World} {p : Option Addr} {m c : Nat} {v : Value} (hx : x = (G, l, k)) (h1 : w'.ownsRow w.heap.size 40 3 (.slice p m c) G.es.length (cat G.es))
    (h2 : w'.ownsRow w.heap.size 3 1 v l.length (l.map (Value.int .i64))) (hB : RowKit.Below w.heap.size w w') :
    RetEs x.1 x.2.1 x.2.2 w (.returned (.tuple #[.agg #[.int .i64 G.q, .int .i64 G.n, .slice p m c], v, .int .i64 k])) w' := by
  subst hx
  obtain ⟨q, d, rfl, _⟩ := own_sl h2
  exact ⟨p, m, c, q, d, rfl, h1, h2, hB⟩

set_option maxRecDepth 100000 in
set_option maxHeartbeats 4000000 in
theorem gEss_any (G : Gr) (p : Option Addr) (c : Nat) (w : World) (hin : Sg 3 w edE p G.es) (hl : G.es.length ≤ 10000) :
    Calls Tryd.prog 13 #[(.agg #[.int .i64 G.q, .int .i64 G.n, .slice p G.es.length c])] w (RetEs (essA G).1 (essA G).2.1 (essA G).2.2 w) := by
  have HIN := hidI hin
  clear hin
  obtain ⟨i0, hi0, hz0, hz1, hz3⟩ := info_parts infoIn
  obtain ⟨w0, hw0⟩ : ∃ w0, w0 = (w.alloc (.cells #[.int .i64 G.q, .int .i64 G.n, .slice p G.es.length c] 24)).alloc (.cells #[.int .i64 0, .int .i64 0, .slice none 0 0] 24) := ⟨_, rfl⟩
  have b0 : VRow w0 w.heap.size 24 [.int .i64 G.q, .int .i64 G.n, .slice p G.es.length c] := by subst hw0; exact (VRow.new w _ _).alloc _
  have b1 : VRow w0 (w.heap.size + 1) 24 [.int .i64 0, .int .i64 0, .slice none 0 0] := by subst hw0; exact VRow.new1 w _ _ _
  have hB0 : RowKit.Below w.heap.size w w0 := by subst hw0; exact ((RowKit.Below.refl _ _).alloc (Nat.le_refl _) _).alloc (by simp) _
  obtain ⟨r, hr⟩ : ∃ r, chkG G = r := ⟨_, rfl⟩
  by_cases hr0 : r = 0
  · subst hr0
    have HR := hidI hr
    have HV := hidI (chkG_ok.1 hr)
    obtain ⟨N, hNt⟩ : ∃ N : Nat, N = G.n.toNat := ⟨_, rfl⟩
    have HK : Hid (essA G = (partA G (ess G.es (upto N)), ess G.es (upto N), 0)) := by rw [hNt]; exact essA_ok hr
    clear hr
    go_enter Tryd.func13, Tryd.ntmps13
    go_wp2_with fail
    rw [← hw0]
    clear hw0
    refine (gCheck_r G p c _ 0 HR.out (HIN.out.below hB0) (by omega)).mono ?_
    rintro e w1 ⟨rfl, hB1⟩
    have x1 := hB0.trans (hB1.mono hB0.size)
    have c0 := b0.below hB1 b0.lt
    have c1 := b1.below hB1 b1.lt
    have f1 := c0.at 1 rfl
    clear hB1 b0 b1 hB0
    have hz : w.heap.size + 1 < w1.heap.size := c1.lt
    have hn0 := HV.out.n1; have hn1 := HV.out.n2
    have HN : Hid ((N : Int) = G.n) := by unfold Hid; omega
    have HU : Hid (St G.n (upto N)) := by rw [hNt]; exact St.upto hn0
    clear hNt
    go_wp2
    go_loopw [5, 22] (fun ov iv wr => ∃ k : Nat, k ≤ N ∧ iv = .int .i64 k ∧ wr.ownsRow w1.heap.size 3 1 ov k ((upto k).map (Value.int .i64)) ∧ RowKit.Below w1.heap.size w1 wr) (fun _ iv _ => N - (intOf iv).toNat)
    case atStart => exact ⟨0, by omega, rfl, World.ownsRow_nil _ _ _ _, RowKit.Below.refl _ _⟩
    case round =>
      obtain ⟨k, hk, rfl, hown, hB⟩ := hrel
      have hNN := HN.out
      by_cases hlt : (k : Int) < G.n
      · have hkN : k + 1 ≤ N := by omega
        clear hNN
        have hnew := cell_one_at wr (.int .i64 (k : Int)) 3 wr.heap.size rfl
        have HUS := hidI (upto_succ k)
        generalize upto k = M at *
        go_wp2_with (at_builtin; refine wpList_append_own _ rfl _ _ 41 rfl w1.heap.size 3 i0 (.int .i64 0) 1 8 Tryd.underlying41 hi0 hz0 hz1 hz3 rfl (by decide) _ _ _ rfl (hown.alloc _) ⟨wr.heap.size, 0, none⟩ 1 1 [.int .i64 (k : Int)] rfl rfl hnew (by simp [Value.oneCell']) (by simp [maxLen]; omega) (by omega) (by rw [World.size_alloc]; have := hB.size; omega) ?_; intro v' w2 hown' hgrow _)
        go_roundw
        case rel => exact ⟨k + 1, hkN, by go_num, by rw [HUS.out, List.map_append]; exact hown', (hB.alloc hB.size _).grown hgrow (Nat.le_trans hB.size (by simp)) (fun j e => (hown.lt j e).1)⟩
        case measure => simp [intOf]; omega
      · obtain rfl : N = k := by omega
        clear hNN
        obtain ⟨w2, rfl⟩ : ∃ w2 : World, w2 = wr := ⟨_, rfl⟩
        have x2 := x1.trans (hB.mono x1.size)
        have d0 := c0.below hB c0.lt
        have d1 := c1.below hB c1.lt
        have hge := hB.size
        have hmm := @run_makeMap Tryd.prog
        clear hB x1 c0 c1 f1
        go_wp2
        clear hlt
        go_loopw [5] (fun sv wr => ∃ st : List Int, Hid (St G.n st) ∧ Hid (ess G.es st = ess G.es (upto N)) ∧ wr.ownsRow w1.heap.size 3 1 sv st.length (st.map (Value.int .i64)) ∧ VRow wr w.heap.size 24 [.int .i64 G.q, .int .i64 G.n, .slice p G.es.length c] ∧ VRow wr (w.heap.size + 1) 24 [.int .i64 0, .int .i64 0, .slice none 0 0] ∧ RowKit.Below w.heap.size w wr ∧ w1.heap.size ≤ wr.heap.size) (fun sv _ => slLen sv)
        case atStart => exact ⟨upto N, HU, rfl, by rw [upto_len]; exact hown, d0, d1, x2, hge⟩
        case round =>
          obtain ⟨st, HST, HE, hown, e0, e1, hB, hge⟩ := hrel
          obtain ⟨ps, cs, rfl, _⟩ := own_sl hown
          obtain ⟨wo, rfl⟩ : ∃ wo : World, wo = wr := ⟨_, rfl⟩
          have hsl : st.length ≤ 64 := by have := HST.out.len hn0; omega
          obtain ⟨W0, hW0⟩ : ∃ W0, W0 = (((wo.alloc (.map #[] 0)).alloc (.map #[] 0)).alloc (.cells #[.map (some wo.heap.size)] 67)).alloc (.cells #[.map (some (wo.heap.size + 1))] 67) := ⟨_, rfl⟩
          have m1 : MapB W0 wo.heap.size (enE G.es st 0) := by subst hW0; exact (((MapB.made wo).alloc _).alloc _).alloc _
          have m2 : MapB W0 (wo.heap.size + 1) (lfE G.es st 0) := by
            subst hW0
            have := (((MapB.made (wo.alloc (.map #[] 0))).alloc (.cells #[.map (some wo.heap.size)] 67)).alloc (.cells #[.map (some (wo.heap.size + 1))] 67))
            rwa [World.size_alloc] at this
          have q1 : VRow W0 (wo.heap.size + 1 + 1) 67 [.map (some wo.heap.size)] := by
            subst hW0; exact (VRow.new2 wo _ _ _ _).alloc _
          have q2 : VRow W0 (wo.heap.size + 1 + 1 + 1) 67 [.map (some (wo.heap.size + 1))] := by
            subst hW0
            have h := VRow.new (((wo.alloc (.map #[] 0)).alloc (.map #[] 0)).alloc (.cells #[.map (some wo.heap.size)] 67)) 67 [.map (some (wo.heap.size + 1))]
            rwa [World.size_alloc, World.size_alloc, World.size_alloc] at h
          have hown0 : W0.ownsRow w1.heap.size 3 1 (.slice ps st.length cs) st.length (st.map (Value.int .i64)) := by subst hW0; exact (((hown.alloc _).alloc _).alloc _).alloc _
          have e00 : VRow W0 w.heap.size 24 [.int .i64 G.q, .int .i64 G.n, .slice p G.es.length c] := by subst hW0; exact (((e0.alloc _).alloc _).alloc _).alloc _
          have e10 : VRow W0 (w.heap.size + 1) 24 [.int .i64 0, .int .i64 0, .slice none 0 0] := by subst hW0; exact (((e1.alloc _).alloc _).alloc _).alloc _
          have hbs := hB.size
          have hB0 : RowKit.Below w.heap.size w W0 := by subst hW0; exact (((hB.alloc hbs _).alloc (by simp; omega) _).alloc (by simp; omega) _).alloc (by simp; omega) _
          have hz0 : wo.heap.size + 1 + 1 + 1 < W0.heap.size := q2.lt
          have nb : ∀ j, (Value.slice ps st.length cs).ownBlock = some j → j < wo.heap.size := fun j e => (hown.lt j e).2
          have f2 := e00.at 2 rfl
          rw [hW0] at f2
          go_wp2
          rw [← hW0]
          clear hW0 f2 e0 e1
          go_loopw [35] (fun jv wx => ∃ k : Nat, k ≤ G.es.length ∧ jv = .int .i64 k ∧ MapB wx wo.heap.size (enE G.es st k) ∧ MapB wx (wo.heap.size + 1) (lfE G.es st k) ∧ VRow wx (wo.heap.size + 1 + 1) 67 [.map (some wo.heap.size)] ∧ VRow wx (wo.heap.size + 1 + 1 + 1) 67 [.map (some (wo.heap.size + 1))] ∧
              wx.ownsRow w1.heap.size 3 1 (.slice ps st.length cs) st.length (st.map (Value.int .i64)) ∧ VRow wx w.heap.size 24 [.int .i64 G.q, .int .i64 G.n, .slice p G.es.length c] ∧ VRow wx (w.heap.size + 1) 24 [.int .i64 0, .int .i64 0, .slice none 0 0] ∧ RowKit.Below w.heap.size w wx ∧ w1.heap.size ≤ wx.heap.size) (fun jv _ => G.es.length - (intOf jv).toNat)
          case atStart => exact ⟨0, by omega, rfl, m1, m2, q1, q2, hown0, e00, e10, hB0, by omega⟩
          case round =>
            clear m1 m2 q1 q2 hown0 e00 e10 hB0 hz0
            obtain ⟨k, hk, rfl, m1, m2, q1, q2, hownx, e0, e1, hBx, hgx⟩ := hrel
            by_cases hlt : k < G.es.length
            · obtain ⟨b3, o3, rfl, hb3, z0, z1, z2⟩ := (HIN.out.below hBx).get3 k hlt rfl
              have HX := hidI (HV.out.ins G.es[k] (List.getElem_mem hlt))
              obtain ⟨ps', cs', hpe, hsl1⟩ := own_sl hownx
              cases hpe
              have hbz := hBx.size
              have HEN := hidI (enE_hit (st := st) hlt); have HLF := hidI (lfE_hit (st := st) hlt)
              have HEM := hidI (enE_miss (st := st) hlt); have HLM := hidI (lfE_miss (st := st) hlt)
              generalize G.es[k] = x at *
              obtain ⟨W1, hW1⟩ : ∃ W1, W1 = wr.alloc (.cells #[.int .i64 x.f, .int .i64 x.l, .int .i64 x.t] 40) := ⟨_, rfl⟩
              have y0 : VRow W1 wr.heap.size 40 [.int .i64 x.f, .int .i64 x.l, .int .i64 x.t] := by subst hW1; exact VRow.new wr _ _
              have hS1 : Sl W1 (Value.int .i64) ps st := by subst hW1; exact hsl1.below ((RowKit.Below.refl _ _).alloc (Nat.le_refl _) _)
              have n1 : MapB W1 wo.heap.size (enE G.es st k) := by subst hW1; exact m1.alloc _
              have n2 : MapB W1 (wo.heap.size + 1) (lfE G.es st k) := by subst hW1; exact m2.alloc _
              have r1 : VRow W1 (wo.heap.size + 1 + 1) 67 [.map (some wo.heap.size)] := by subst hW1; exact q1.alloc _
              have r2 : VRow W1 (wo.heap.size + 1 + 1 + 1) 67 [.map (some (wo.heap.size + 1))] := by subst hW1; exact q2.alloc _
              have hown1 : W1.ownsRow w1.heap.size 3 1 (.slice ps st.length cs) st.length (st.map (Value.int .i64)) := by subst hW1; exact hownx.alloc _
              have g0 : VRow W1 w.heap.size 24 [.int .i64 G.q, .int .i64 G.n, .slice (some ⟨b3, o3, none⟩) G.es.length c] := by subst hW1; exact e0.alloc _
              have g1 : VRow W1 (w.heap.size + 1) 24 [.int .i64 0, .int .i64 0, .slice none 0 0] := by subst hW1; exact e1.alloc _
              have hB1 : RowKit.Below w.heap.size w W1 := by subst hW1; exact hBx.alloc hbz _
              have hg1 : w1.heap.size ≤ W1.heap.size := by subst hW1; simp; omega
              have hwz : wo.heap.size + 1 + 1 + 1 < wr.heap.size := q2.lt
              go_wp2_with fail
              rw [← hW1]
              clear hW1 m1 m2 q1 q2 hownx e0 e1 hBx hgx hsl1 hbz
              have u0 := y0.at 0 rfl; have u2 := y0.at 2 rfl
              refine (binI_any st ps cs x.f W1 hS1 HST.out.srt (by omega)).mono ?_
              rintro e wa ⟨⟨i, rfl, _⟩, hDa⟩
              have hS2 := hS1.dr hDa
              have v2 := (y0.dr hDa).at 2 rfl
              clear u0 u2
              go_wp2_with fail
              refine (binI_any st ps cs x.t wa hS2 HST.out.srt (by omega)).mono ?_
              rintro e W2 ⟨⟨j, rfl, _⟩, hDb⟩
              have hD := hDa.trans hDb
              have y2 := y0.dr hD
              have n1' := n1.dr hD; have n2' := n2.dr hD
              have r1' := r1.dr hD; have r2' := r2.dr hD
              have hown2 := hown1.dr hD
              have g0' := g0.dr hD; have g1' := g1.dr hD
              have hB2 := hB1.trans (hD.below _)
              have hg2 : w1.heap.size ≤ W2.heap.size := by rw [hD.size]; exact hg1
              clear y0 hS1 hS2 n1 n2 r1 r2 hown1 g0 g1 hB1 hg1 v2 hDa hDb hD
              by_cases hm : x.f ∈ st ∧ x.t ∈ st
              · have m1 : decide (x.f ∈ st) = true := decide_eq_true hm.1
                have m2 : decide (x.t ∈ st) = true := decide_eq_true hm.2
                rw [m1, m2]
                have HEN := hidI (HEN.out hm); have HLF := hidI (HLF.out hm)
                clear HEM HLM m1 m2 hm
                have okt : okI x.t := okI_of (by have := HX.out; omega) (by have := HX.out; omega)
                have okf : okI x.f := okI_of (by have := HX.out; omega) (by have := HX.out; omega)
                have n1d : MapB W2.drew wo.heap.size (enE G.es st k) := n1'
                have n2d : MapB W2.drew (wo.heap.size + 1) (lfE G.es st k) := n2'
                have y2d : VRow W2.drew wr.heap.size 40 [.int .i64 x.f, .int .i64 x.l, .int .i64 x.t] := y2
                have r1d : VRow W2.drew (wo.heap.size + 1 + 1) 67 [.map (some wo.heap.size)] := r1'
                have r2d : VRow W2.drew (wo.heap.size + 1 + 1 + 1) 67 [.map (some (wo.heap.size + 1))] := r2'
                have hownd : W2.drew.ownsRow w1.heap.size 3 1 (.slice ps st.length cs) st.length (st.map (Value.int .i64)) := hown2
                have g0d : VRow W2.drew w.heap.size 24 [.int .i64 G.q, .int .i64 G.n, .slice (some ⟨b3, o3, none⟩) G.es.length c] := g0'
                have g1d : VRow W2.drew (w.heap.size + 1) 24 [.int .i64 0, .int .i64 0, .slice none 0 0] := g1'
                have hBd : RowKit.Below w.heap.size w W2.drew := hB2.drew
                have hgd : w1.heap.size ≤ W2.drew.heap.size := hg2
                have hwb := hB.size
                clear n1' n2' y2 r1' r2' hown2 g0' g1' hB2 hg2
                go_wp2_with fail
                obtain ⟨U1, hr1, M1, G1⟩ := n1d.store x.t okt
                have n2u := n2d.kept G1 (fun e => by have := Option.some.inj e; omega)
                obtain ⟨U2, hr2, M2, G2⟩ := n2u.store x.f okf
                have M1' := M1.kept G2 (fun e => by have := Option.some.inj e; omega)
                have a0 := y2d.at 0 rfl; have a2 := y2d.at 2 rfl
                have a7 := r1d.at 0 rfl; have a8 := r2d.at 0 rfl
                have yu := y2d.grown G1 (fun e => by have := Option.some.inj e; omega)
                have ru1 := r1d.grown G1 (fun e => by have := Option.some.inj e; omega)
                have ru2 := r2d.grown G1 (fun e => by have := Option.some.inj e; omega)
                have d0 := yu.at 0 rfl; have d8 := ru2.at 0 rfl
                have rr1 := ru1.grown G2 (fun e => by have := Option.some.inj e; omega)
                have rr2 := ru2.grown G2 (fun e => by have := Option.some.inj e; omega)
                have hownu := (hownd.kept G1 (.inr (fun e => by have := nb _ e; omega))).kept G2 (.inr (fun e => by have := nb _ e; omega))
                have g0u := (g0d.grown G1 (fun e => by have := Option.some.inj e; omega)).grown G2 (fun e => by have := Option.some.inj e; omega)
                have g1u := (g1d.grown G1 (fun e => by have := Option.some.inj e; omega)).grown G2 (fun e => by have := Option.some.inj e; omega)
                have hBu := (hBd.grown G1 hBd.size (fun j e => by have := Option.some.inj e; omega)).grown G2 (Nat.le_trans hBd.size G1.size) (fun j e => by have := Option.some.inj e; omega)
                have hgu := Nat.le_trans (Nat.le_trans hgd G1.size) G2.size
                clear n1d n2d y2d r1d r2d hownd g0d g1d hBd hgd n2u yu ru1 ru2 M1 G1 G2
                go_region
                all_goals
                  go_wp2
                  go_roundw
                  case rel => exact ⟨k + 1, by omega, by go_num, M1'.congr (fun a => (HEN.out a).symm), M2.congr (fun a => (HLF.out a).symm), rr1, rr2, hownu, g0u, g1u, hBu, hgu⟩
                  case measure => simp [intOf]; omega
              · have HEM := hidI (HEM.out hm); have HLM := hidI (HLM.out hm)
                have hor : decide (x.f ∈ st) = false ∨ (decide (x.f ∈ st) = true ∧ decide (x.t ∈ st) = false) := by
                  by_cases h1 : x.f ∈ st
                  · exact .inr ⟨decide_eq_true h1, decide_eq_false (fun h2 => hm ⟨h1, h2⟩)⟩
                  · exact .inl (decide_eq_false h1)
                clear HEN HLF hm
                generalize decide (x.f ∈ st) = b1 at *
                generalize decide (x.t ∈ st) = b2 at *
                rcases hor with rfl | ⟨rfl, rfl⟩
                all_goals
                  go_wp2_with fail
                  go_roundw
                  case rel => exact ⟨k + 1, by omega, by go_num, n1'.congr (fun a => (HEM.out a).symm), n2'.congr (fun a => (HLM.out a).symm), r1', r2', hown2, g0', g1', hB2, hg2⟩
                  case measure => simp [intOf]; omega
            · obtain rfl : k = G.es.length := by omega
              obtain ⟨ps', cs', hpe, hsl1⟩ := own_sl hownx
              cases hpe
              have HSS := hidI (essS_maps G.es st)
              have k1 := q1.at 0 rfl; have k2 := q2.at 0 rfl
              have hwz : wo.heap.size + 1 + 1 + 1 < wr.heap.size := q2.lt
              have c1 : (Value.slice ps st.length cs).ownBlock ≠ some (wo.heap.size + 1 + 1) := fun e => by have := nb _ e; omega
              have c2 : (Value.slice ps st.length cs).ownBlock ≠ some (wo.heap.size + 1 + 1 + 1) := fun e => by have := nb _ e; omega
              have hdel := gDel_any (enE G.es st G.es.length) (lfE G.es st G.es.length) st w1.heap.size st.length (wo.heap.size + 1 + 1) (wo.heap.size + 1 + 1 + 1) wo.heap.size (wo.heap.size + 1) (.slice ps st.length cs) wr hownx (by omega) (fun x hx => by have := HST.out.ins x hx; omega) k1 k2 m1 m2 c1 c2
              rw [HSS.out] at hdel
              have HDEL := hidI hdel
              clear hdel k1 k2
              go_wp2_with (go_at_call 28; refine HDEL.out.mono ?_)
              rintro e w3 ⟨v3, rfl, hown3, G3, _⟩
              have hne : ∀ j, (Value.slice ps st.length cs).ownBlock = some j → w1.heap.size ≤ j := fun j e => (hownx.lt j e).1
              have e03 := e0.grown G3 (fun e => by have := hne _ e.symm; omega)
              have e13 := e1.grown G3 (fun e => by have := hne _ e.symm; omega)
              have hB3 := hBx.grown G3 hBx.size (fun j e => by have := hne _ e; omega)
              have hg3 := Nat.le_trans hgx G3.size
              clear m1 m2 q1 q2 hownx e0 e1 hBx hgx hsl1 hne nb c1 c2 G3 HDEL HSS
              by_cases he : (essS G.es st).length = st.length
              · have hE := essS_eq he
                have HKK : Hid (essA G = (partA G st, st, 0)) := by
                  have := HE.out
                  rw [ess_stop he] at this
                  rw [Hid, HK.out, ← this]
                rw [hE] at hown3
                clear hE he
                obtain ⟨p3, c3, rfl, hs3⟩ := own_sl hown3
                have f0 := e03.at 0 rfl; have f1 := e03.at 1 rfl; have f2 := e03.at 2 rfl
                have hst3 := HST.out.srt
                clear HE
                go_wp2_with fail
                refine (gkeep_any G p c st p3 c3 w3 (HIN.out.below hB3) hs3 hl (by omega) hst3).mono ?_
                generalize partA G st = R at *
                rintro e w4 ⟨p4, m4, c4, rfl, hown4, hB4⟩
                have x4 := hB3.trans (hB4.mono hB3.size)
                have e14 := e13.below hB4 e13.lt
                have hz3 : w.heap.size + 1 < w3.heap.size := e13.lt
                have hown5 := hown3.below hB4
                clear f0 f1 f2
                have j0 := e14.at 0 rfl; have j1 := e14.at 1 rfl; have j2 := e14.at 2 rfl
                have z0 := e14.frozen 0; have z1 := e14.frozen 1; have z2 := e14.frozen 2
                go_wp2
                have r6 := VRow.set (i := 2) (.slice p4 m4 c4) (VRow.set (i := 1) (.int .i64 R.n) (VRow.set (i := 0) (.int .i64 R.q) e14))
                have y0 := r6.at 0 rfl; have y1 := r6.at 1 rfl; have y2 := r6.at 2 rfl
                have o6 := ownsRow_setCell_below (a := (⟨w.heap.size + 1, 2, none⟩ : Addr)) (ownsRow_setCell_below (a := (⟨w.heap.size + 1, 1, none⟩ : Addr)) (ownsRow_setCell_below (a := (⟨w.heap.size + 1, 0, none⟩ : Addr)) hown4 hz3 (.int .i64 R.q)) hz3 (.int .i64 R.n)) hz3 (.slice p4 m4 c4)
                have o7 := ownsRow_setCell_below (a := (⟨w.heap.size + 1, 2, none⟩ : Addr)) (ownsRow_setCell_below (a := (⟨w.heap.size + 1, 1, none⟩ : Addr)) (ownsRow_setCell_below (a := (⟨w.heap.size + 1, 0, none⟩ : Addr)) hown5 hz (.int .i64 R.q)) hz (.int .i64 R.n)) hz (.slice p4 m4 c4)
                have x6 : RowKit.Below w.heap.size w (((w4.setCell (⟨w.heap.size + 1, 0, none⟩ : Addr) (.int .i64 R.q)).setCell (⟨w.heap.size + 1, 1, none⟩ : Addr) (.int .i64 R.n)).setCell (⟨w.heap.size + 1, 2, none⟩ : Addr) (.slice p4 m4 c4)) :=
                  ((x4.setCell (show w.heap.size ≤ w.heap.size + 1 by omega) _).setCell (show w.heap.size ≤ w.heap.size + 1 by omega) _).setCell (show w.heap.size ≤ w.heap.size + 1 by omega) _
                refine bodyPost_ret (v := .tuple #[.agg #[.int .i64 R.q, .int .i64 R.n, .slice p4 m4 c4], .slice p3 st.length c3, .int .i64 0]) (by simp [results, Tryd.results13, go_sem, y0, y1, y2]) rfl ?_
                exact RetEs.of HKK.out (own_conv o6 rfl (by omega)) ⟨o7.1, o7.2.imp id (fun ⟨g, cap, cur, a, b, z⟩ => ⟨g, cap, cur, a, Nat.le_trans (show w.heap.size ≤ w1.heap.size by omega) b, z⟩)⟩ x6
              · have HEG : Hid (ess G.es (essS G.es st) = ess G.es (upto N)) := by rw [Hid, ← ess_go he]; exact HE.out
                have HSF : Hid (St G.n (essS G.es st)) := HST.out.filter _
                have hle := essS_le G.es st
                clear HE
                generalize essS G.es st = S at *
                obtain ⟨p3, c3, rfl, hs3⟩ := own_sl hown3
                have hb : ((S.length : Int) == (st.length : Int)) = false := by rw [beq_eq_false_iff_ne]; omega
                go_wp2
                go_roundw
                case rel => exact ⟨S, HSF, HEG, hown3, e03, e13, hB3, hg3⟩
                case measure => simp [slLen]; omega
  · have HK : Hid (essA G = (⟨0, 0, []⟩, [], 1)) := essA_bad (by rw [hr]; exact hr0)
    have hrb : (r == 0) = false := by simpa using hr0
    have HR := hidI hr
    clear hr
    go_enter Tryd.func13, Tryd.ntmps13
    go_wp2_with fail
    rw [← hw0]
    clear hw0
    refine (gCheck_r G p c _ r HR.out (HIN.out.below hB0) (by omega)).mono ?_
    rintro e w1 ⟨rfl, hB1⟩
    have x1 := hB0.trans (hB1.mono hB0.size)
    have c1 := b1.below hB1 b1.lt
    have j0 := c1.at 0 rfl; have j1 := c1.at 1 rfl; have j2 := c1.at 2 rfl
    have z0 := c1.frozen 0; have z1 := c1.frozen 1; have z2 := c1.frozen 2
    go_wp2
    have r6 := VRow.set (i := 2) (.slice none 0 0) (VRow.set (i := 1) (.int .i64 0) (VRow.set (i := 0) (.int .i64 0) c1))
    have y0 := r6.at 0 rfl; have y1 := r6.at 1 rfl; have y2 := r6.at 2 rfl
    have x6 : RowKit.Below w.heap.size w (((w1.setCell (⟨w.heap.size + 1, 0, none⟩ : Addr) (.int .i64 0)).setCell (⟨w.heap.size + 1, 1, none⟩ : Addr) (.int .i64 0)).setCell (⟨w.heap.size + 1, 2, none⟩ : Addr) (.slice none 0 0)) :=
      ((x1.setCell (show w.heap.size ≤ w.heap.size + 1 by omega) _).setCell (show w.heap.size ≤ w.heap.size + 1 by omega) _).setCell (show w.heap.size ≤ w.heap.size + 1 by omega) _
    refine bodyPost_ret (v := .tuple #[.agg #[.int .i64 0, .int .i64 0, .slice none 0 0], .slice none 0 0, .int .i64 1]) (by simp [results, Tryd.results13, go_sem, y0, y1, y2]) rfl ?_
    exact RetEs.of (G := ⟨0, 0, []⟩) (l := []) HK.out (World.ownsRow_nil _ _ _ _) (World.ownsRow_nil _ _ _ _) x6
end Go.Proofs.YtcfmpplhghkagaaDoor
namespace Go.Proofs.YtcfmpplhghkagaaDoor
open Go.RowKit

/-- Edges in memory are as they were. -/
def KT (w w' : World) : Prop := ∀ (i : Nat) (cur : Array Value) (fz : Nat × Nat), w.heap[i]? = some (Obj.cells cur 40 fz) → w'.heap[i]? = some (Obj.cells cur 40 fz)
theorem KT.refl (w : World) : KT w w := fun _ _ _ h => h
theorem KT.trans {a b c : World} (h : KT a b) (k : KT b c) : KT a c := fun i cur fz e => k i cur fz (h i cur fz e)
theorem KT.below {w w' : World} (h : Below w.heap.size w w') : KT w w' := fun i _ _ e => (h.block i (Array.getElem?_eq_some_iff.1 e).1).trans e
theorem KT.set {w : World} {b : Nat} {cur : Array Value} {fz : Nat × Nat} (hb : w.heap[b]? = some (.cells cur 48 fz)) (k : Nat) (v : Value) : KT w (w.setCell ⟨b, k, none⟩ v) := fun i c z e => by
  have hne : i ≠ b := by rintro rfl; rw [hb] at e; cases e
  exact (Below.heap_setCell _ _ _ _ hne).trans e
theorem KT.vrow {w w' : World} {B : Nat} {l : List Value} (h : KT w w') (hr : VRow w B 40 l) : VRow w' B 40 l := h _ _ _ hr
theorem sizeBuilder : (Tryd.prog.info? 48).map (·.size) = some 2 := by kernel_rfl
theorem liesBuilder : liesAt Tryd.prog Tryd.prog.depth 48 (2 / Tryd.prog.cellsOf 48) 0 48 1 = true := by kernel_rfl
theorem infoByte : (Tryd.prog.info? 5).map (fun i => (i.zero, i.size, i.bytes)) = some (some (.int .u8 0), 1, 1) := by kernel_rfl

set_option maxHeartbeats 1000000 in
set_option maxRecDepth 100000 in
theorem bcopy_used (b : Nat) (w : World) (h0 : w.cell? ⟨b, 0, none⟩ = some (.pointer (some ⟨b, 0, none⟩))) :
    Calls Tryd.prog 31 #[.pointer (some ⟨b, 0, none⟩)] w fun e w' => e = .returned (.tuple #[]) ∧ w' = w := by
  obtain ⟨j, hj, _⟩ := Option.map_eq_some_iff.1 sizeBuilder
  go_enter Tryd.func31, Tryd.ntmps31
  go_wp2
  rw [Lib.run_neq_ptr_same w _ Tryd.underlying45 hj]
  go_wp2
  go_end0
  exact ⟨rfl, rfl⟩

set_option maxHeartbeats 1000000 in
set_option maxRecDepth 100000 in
theorem bcopy_fresh (b : Nat) (w : World) (h0 : w.cell? ⟨b, 0, none⟩ = some (.pointer none)) (hsh : w.shape? b = some (48, 2)) (hfz : w.frozen? ⟨b, 0, none⟩ = false) :
    Calls Tryd.prog 31 #[.pointer (some ⟨b, 0, none⟩)] w fun e w' => e = .returned (.tuple #[]) ∧ w' = w.setCell ⟨b, 0, none⟩ (.pointer (some ⟨b, 0, none⟩)) := by
  obtain ⟨j, hj, hjs⟩ := Option.map_eq_some_iff.1 sizeBuilder
  go_enter Tryd.func31, Tryd.ntmps31
  go_wp2
  rw [Lib.run_to_unsafe w ⟨b, 0, none⟩ Tryd.underlying45 Tryd.underlying80 hj (by rw [hjs]; decide) hsh (Nat.zero_lt_succ 1)]
  simp only [Result.andThen]
  rw [Oper.upon_value]
  go_wp2
  rw [run_callFunc_extern Tryd.func43 (by kernel_rfl) (by kernel_rfl) (by kernel_rfl) (e := Extern.AbiNoEscape.same) (by kernel_rfl)]
  rw [Lib.run_noEscape]
  simp only [Result.andThen]
  rw [Oper.upon_value]
  go_wp2
  rw [Lib.run_from_unsafe w ⟨b, 0, none⟩ Tryd.underlying80 Tryd.underlying45 hj hsh liesBuilder]
  simp only [Result.andThen]
  rw [Oper.upon_value]
  go_wp2
  go_end0
  exact ⟨rfl, rfl⟩

theorem bcopy_any (B b : Nat) (bs : List Value) (w : World) (h : Lib.IsBuilderF 48 5 B b bs w) :
    Calls Tryd.prog 31 #[.pointer (some ⟨b, 0, none⟩)] w fun e w' => e = .returned (.tuple #[]) ∧ (Lib.BuilderAtF 48 5 B b (.pointer (some ⟨b, 0, none⟩)) bs w' ∧ Below B w w' ∧ KT w w') := by
  rcases h with h | h
  · refine (bcopy_fresh b w h.cell0 h.shape h.frozen0).mono ?_
    rintro e w' ⟨rfl, rfl⟩
    obtain ⟨v, hbk, _⟩ := h.2
    exact ⟨rfl, h.used _, (Below.refl B w).setCell (p := ⟨b, 0, none⟩) h.1 _, KT.set hbk 0 _⟩
  · refine (bcopy_used b w h.cell0).mono ?_
    rintro e w' ⟨rfl, rfl⟩
    exact ⟨rfl, h, Below.refl B _, KT.refl _⟩

set_option maxHeartbeats 2000000 in
set_option maxRecDepth 100000 in
theorem bwrite_any (B b : Nat) (bs : List Value) (s : ByteArray) (w : World) (h : Lib.IsBuilderF 48 5 B b bs w) (hlen : bs.length + s.size ≤ 140737488355328) (hBw : B ≤ w.heap.size) :
    Calls Tryd.prog 16 #[.pointer (some ⟨b, 0, none⟩), .string s] w fun e w' => e = .returned (.tuple #[.int .i64 s.size, .nilIface]) ∧ (Lib.BuilderAtF 48 5 B b (.pointer (some ⟨b, 0, none⟩)) (bs ++ Lib.strCells s) w' ∧ Below B w w' ∧ KT w w') := by
  obtain ⟨i0, hi, hz0, hz1, hz2⟩ := info_parts infoByte
  go_enter Tryd.func16, Tryd.ntmps16
  go_wp2_with (go_at_call 31; refine (bcopy_any B b bs _ h).mono ?_)
  rintro e w1 ⟨rfl, h1, hb1, kt1⟩
  obtain ⟨hB, v, hbk, hown, hne⟩ := h1
  have c0 : w1.cell? ⟨b, 0, none⟩ = some (.pointer (some ⟨b, 0, none⟩)) := by rw [Lib.cell_of_heap hbk]; rfl
  have c1 : w1.cell? ⟨b, 1, none⟩ = some v := by rw [Lib.cell_of_heap hbk]; rfl
  go_wp2_with (at_builtin; refine Lib.wpList_append_own_stringF _ rfl _ _ 46 9 rfl B 5 i0 Tryd.underlying46 Tryd.underlying9 hi hz0 hz1 hz2 _ _ _ rfl hown s rfl ?c3 ?c4 ?c5 ?_)
  case c3 => unfold maxLen; omega
  case c4 => omega
  case c5 => have := hb1.size; omega
  intro v' w2 hown' hgrow _
  have hlt : b < w1.heap.size := by
    rcases Nat.lt_or_ge b w1.heap.size with h' | h'
    · exact h'
    · simp [Array.getElem?_eq_none h'] at hbk
  have hb2 : w2.heap[b]? = some (.cells #[.pointer (some ⟨b, 0, none⟩), v] 48 (0, 0)) := by
    rw [hgrow.block b hlt (fun e => hne e.symm)]
    exact hbk
  have d0 : w2.cell? ⟨b, 0, none⟩ = some (.pointer (some ⟨b, 0, none⟩)) := by rw [Lib.cell_of_heap hb2]; rfl
  have d1 : w2.cell? ⟨b, 1, none⟩ = some v := by rw [Lib.cell_of_heap hb2]; rfl
  have f1 : w2.frozen? ⟨b, 1, none⟩ = false := Lib.frozen_of_heap hb2 1
  obtain ⟨ao, n', cap, rfl⟩ : ∃ ao n' cap, v' = .slice ao n' cap := by
    rcases hown'.2 with ⟨hv, _⟩ | ⟨g, cap, cur, fz, hv, _⟩
    · exact ⟨_, _, _, hv⟩
    · exact ⟨_, _, _, hv⟩
  have kt2 : KT w1 w2 := fun i cur fz e => by
    refine (hgrow.block i (Array.getElem?_eq_some_iff.1 e).1 (fun e' => ?_)).trans e
    rcases hown.2 with ⟨rfl, _⟩ | ⟨g, cap, cu, f, rfl, _, hg, _⟩
    · simp [Value.ownBlock] at e'
    · obtain rfl : i = g := by simpa [Value.ownBlock] using e'
      rw [hg] at e; cases e
  have kt3 := (kt1.trans kt2).trans (KT.set hb2 1 (.slice ao n' cap))
  go_wp2
  go_ret2
  refine ⟨rfl, ?_, ?_, kt3⟩
  · exact Lib.BuilderAtF.put (T := 48) (e := 5) hB hb2 (bs' := bs ++ Lib.strCells s) (by simpa [Lib.strCells_length] using hown') (by decide)
  · exact (hb1.grown hgrow (by have := hb1.size; omega) (fun k hk => (hown.lt k hk).1)).setCell (p := ⟨b, 1, none⟩) hB _
end Go.Proofs.YtcfmpplhghkagaaDoor
namespace Go.Proofs.YtcfmpplhghkagaaDoor
open Go.RowKit Go.Sort Go.Shelf Go.Lib

theorem isb_below {T e : TypeId} {B b : Nat} {bs : List Value} {w w' : World} (h : Lib.IsBuilderF T e B b bs w) (hb : RowKit.Below w.heap.size w w') : Lib.IsBuilderF T e B b bs w' := by
  have key : ∀ p, Lib.BuilderAtF T e B b p bs w → Lib.BuilderAtF T e B b p bs w' := by
    rintro p ⟨hB, v, hbk, hown, hne⟩
    refine ⟨hB, v, (hb.block b (Array.getElem?_eq_some_iff.1 hbk).1).trans hbk, ⟨hown.1, ?_⟩, hne⟩
    rcases hown.2 with h0 | ⟨g, cap, cur, fz, e1, e2, e3, e4⟩
    · exact .inl h0
    · exact .inr ⟨g, cap, cur, fz, e1, e2, (hb.block g (Array.getElem?_eq_some_iff.1 e3).1).trans e3, e4⟩
  rcases h with h | h
  · exact .inl (key _ h)
  · exact .inr (key _ h)
/-- A line of words. -/
def lineB (xs : List ByteArray) : List UInt8 := Lib.join (xs.map (·.data.toList)) [32] ++ [10]
theorem lineB_three (a b c : ByteArray) : lineB [a, b, c] = a.data.toList ++ [32] ++ b.data.toList ++ [32] ++ c.data.toList ++ [10] := by
  simp [lineB, Lib.join, List.intercalate, List.intersperse]
theorem bc_app (o : List UInt8) (s : ByteArray) : Lib.byteCells o ++ Lib.strCells s = Lib.byteCells (o ++ s.data.toList) := by simp [Lib.byteCells, Lib.strCells]

set_option maxRecDepth 100000 in
set_option maxHeartbeats 1000000 in
theorem gLine_any (B b bk c : Nat) (bs : List UInt8) (s1 s2 s3 : ByteArray) (w : World) (h : Lib.IsBuilderF 48 5 B b (Lib.byteCells bs) w) (hw : VRow w bk 9 [.string s1, .string s2, .string s3]) (hc : 3 ≤ c)
    (h1 : s1.size ≤ 1000) (h2 : s2.size ≤ 1000) (h3 : s3.size ≤ 1000) (hl : bs.length ≤ 100000000) (hB : B ≤ w.heap.size) :
    Calls Tryd.prog 15 #[.slice (some ⟨bk, 0, none⟩) 3 c, .pointer (some ⟨b, 0, none⟩)] w fun e w' => e = .returned (.tuple #[]) ∧ Lib.IsBuilderF 48 5 B b (Lib.byteCells (bs ++ lineB [s1, s2, s3])) w' ∧ RowKit.Below B w w' ∧ KT w w' := by
  have e1 : s1.data.toList.length = s1.size := by simp
  have e2 : s2.data.toList.length = s2.size := by simp
  have e3 : s3.data.toList.length = s3.size := by simp
  have hJ : (Lib.join ([s1, s2, s3].map (·.data.toList)) [32]).length ≤ 10000 := by
    have := congrArg List.length (lineB_three s1 s2 s3)
    unfold lineB at this
    simp only [List.length_append, List.length_cons, List.length_nil] at this
    omega
  have hj := Tryd.strings_Join bk 0 c [s1, s2, s3] ⟨#[32]⟩ w (fun j x hx => by
    rw [Nat.zero_add]
    refine hw.at j ?_
    match j, hx with
    | 0, hx => simp at hx ⊢; exact hx
    | 1, hx => simp at hx ⊢; exact hx
    | 2, hx => simp at hx ⊢; exact hx
    | j + 3, hx => simp at hx) hw.lt (by simp) hc (by show (Lib.join ([s1, s2, s3].map (·.data.toList)) [32]).length ≤ _; omega)
  obtain ⟨X, hX⟩ : ∃ X, Lib.join ([s1, s2, s3].map (·.data.toList)) [32] = X := ⟨_, rfl⟩
  have HS : Hid (lineB [s1, s2, s3] = X ++ [10]) := by rw [← hX]; rfl
  have HJ : Hid (Calls Tryd.prog 17 #[.slice (some ⟨bk, 0, none⟩) 3 c, .string ⟨#[32]⟩] w fun e w' => e = .returned (.string ⟨X.toArray⟩) ∧ RowKit.Below w.heap.size w w') := by rw [← hX]; exact hj
  rw [hX] at hJ
  clear hj e1 e2 e3 hX
  go_enter Tryd.func15, Tryd.ntmps15
  go_wp2_with fail
  refine HJ.out.mono ?_
  rintro e w1 ⟨rfl, hB1⟩
  have g1 := isb_below h hB1
  have hz := hB1.size
  go_wp2_with fail
  refine (bwrite_any B b (Lib.byteCells bs) ((⟨X.toArray⟩ : ByteArray) ++ (⟨#[10]⟩ : ByteArray)) w1 g1 ?_ (Nat.le_trans hB hz)).mono ?_
  · have z1 : (⟨X.toArray⟩ : ByteArray).size = X.length := by simp [ByteArray.size]
    have z2 : (⟨#[10]⟩ : ByteArray).size = 1 := rfl
    simp [Lib.byteCells]; omega
  rintro e w2 ⟨rfl, hA, hB2, kt⟩
  go_wp2
  go_end0
  refine ⟨rfl, ?_, (hB1.mono hB).trans hB2, (KT.below hB1).trans kt⟩
  rw [HS.out]
  have : Lib.byteCells bs ++ Lib.strCells ((⟨X.toArray⟩ : ByteArray) ++ (⟨#[10]⟩ : ByteArray)) = Lib.byteCells (bs ++ (X ++ [10])) := by rw [bc_app]; simp
  rw [← this]
  exact .inr hA
end Go.Proofs.YtcfmpplhghkagaaDoor
namespace Go.Proofs.YtcfmpplhghkagaaDoor
open Go.RowKit Go.Sort Go.Shelf Go.Lib

def itB (v : Int) : ByteArray := ⟨(Lib.decDigits v.toNat).toArray⟩
theorem dig_small : ∀ i, i < 100 → (Lib.decDigits i).length ≤ 2 := by decide +kernel
theorem itB_size {v : Int} (h : 0 ≤ v ∧ v < 100) : (itB v).size ≤ 1000 := by
  have := dig_small v.toNat (by omega)
  show (Lib.decDigits v.toNat).toArray.size ≤ 1000
  simp; omega
theorem itoa_any (v : Int) (h : 0 ≤ v ∧ v < 100) (w : World) : Calls Tryd.prog 18 #[.int .i64 v] w fun e w' => e = .returned (.string (itB v)) ∧ w' = w := by
  obtain ⟨i, rfl⟩ : ∃ i : Nat, v = (i : Int) := ⟨v.toNat, by omega⟩
  exact Tryd.strconv_Itoa_small i (by omega) w
def grapB : ByteArray := ⟨#[103, 114, 97, 112, 104]⟩
def edT (x : Ed) : List UInt8 := lineB [itB x.f, itB x.l, itB x.t]
/-- The text of a graph. -/
def txtG (G : Gr) : List UInt8 := lineB [grapB, itB G.q, itB G.n] ++ (G.es.map edT).flatten
theorem txt_snoc (l : List Ed) (k : Nat) (h : k < l.length) : ((l.take (k + 1)).map edT).flatten = ((l.take k).map edT).flatten ++ edT l[k] := by
  rw [List.take_succ_eq_append_getElem h, List.map_append, List.flatten_append]; simp
theorem line_size {a b c : ByteArray} (h1 : a.size ≤ 1000) (h2 : b.size ≤ 1000) (h3 : c.size ≤ 1000) : (lineB [a, b, c]).length ≤ 3003 := by
  rw [lineB_three]
  have e1 : a.data.toList.length = a.size := by simp
  have e2 : b.data.toList.length = b.size := by simp
  have e3 : c.data.toList.length = c.size := by simp
  simp only [List.length_append, List.length_cons, List.length_nil]; omega
/-- Graphs whose numbers have at most two digits. -/
structure Sm (G : Gr) : Prop where
  q : 0 ≤ G.q ∧ G.q < 100
  n : 0 ≤ G.n ∧ G.n < 100
  es : ∀ x ∈ G.es, (0 ≤ x.f ∧ x.f < 100) ∧ (0 ≤ x.l ∧ x.l < 100) ∧ (0 ≤ x.t ∧ x.t < 100)

set_option maxRecDepth 100000 in
set_option maxHeartbeats 4000000 in
theorem gPrint_small (G : Gr) (p : Option Addr) (c : Nat) (w : World) (hin : Sg 3 w edE p G.es) (hv : Vg G) (hs : Sm G) :
    Calls Tryd.prog 6 #[(.agg #[.int .i64 G.q, .int .i64 G.n, .slice p G.es.length c])] w fun e w' => e = .returned (.tuple #[.string ⟨(txtG G).toArray⟩, .int .i64 0]) ∧ RowKit.Below w.heap.size w w' := by
  have HIN := hidI hin; have HV := hidI hv; have HS := hidI hs
  have hl := hv.len
  clear hin hv hs
  have b0 : VRow (w.alloc (.cells #[.int .i64 G.q, .int .i64 G.n, .slice p G.es.length c] 24)) w.heap.size 24 [.int .i64 G.q, .int .i64 G.n, .slice p G.es.length c] := VRow.new w _ _
  have hB0 : RowKit.Below w.heap.size w (w.alloc (.cells #[.int .i64 G.q, .int .i64 G.n, .slice p G.es.length c] 24)) := (RowKit.Below.refl _ _).alloc (Nat.le_refl _) _
  go_enter Tryd.func6, Tryd.ntmps6
  go_wp2_with fail
  refine (gCheck_r G p c _ 0 (chkG_ok.2 HV.out) (HIN.out.below hB0) (by omega)).mono ?_
  rintro e w1 ⟨rfl, hB1⟩
  have x1 := hB0.trans (hB1.mono hB0.size)
  have c0 := b0.below hB1 b0.lt
  clear hB1 b0 hB0
  have hz : w.heap.size < w1.heap.size := c0.lt
  go_upto_region 5 with fail
  obtain ⟨W0, hW0⟩ : ∃ W0, W0 = w1.alloc (.cells #[.pointer none, .slice none 0 0] 48) := ⟨_, rfl⟩
  have hbd : Lib.IsBuilderF 48 5 w1.heap.size w1.heap.size (Lib.byteCells []) W0 := by
    subst hW0
    exact Lib.IsBuilderF.of (.inl ⟨Nat.le_refl _, .slice none 0 0, World.alloc_heap_new _ _, World.ownsRow_nil _ _ _ _, by simp [Value.ownBlock]⟩)
  have d0 : VRow W0 w.heap.size 24 [.int .i64 G.q, .int .i64 G.n, .slice p G.es.length c] := by subst hW0; exact c0.alloc _
  have y2 : RowKit.Below w1.heap.size w1 W0 := by subst hW0; exact (RowKit.Below.refl _ _).alloc (Nat.le_refl _) _
  rw [← hW0]
  clear hW0
  have HBD := hidI hbd
  have f0 := d0.at 0 rfl; have f1 := d0.at 1 rfl
  have HK0 : Hid (∀ V, RowKit.Below w1.heap.size W0 V → V.cell? ⟨w.heap.size, 0, none⟩ = some (.int .i64 G.q) ∧ V.cell? ⟨w.heap.size, 1, none⟩ = some (.int .i64 G.n) ∧ RowKit.Below w1.heap.size W0 V) := fun V h =>
    have h' := d0.below h hz
    ⟨h'.at 0 rfl, h'.at 1 rfl, h⟩
  clear hbd
  go_cut [20] (fun s20 wx => Lib.IsBuilderF 48 5 w1.heap.size w1.heap.size (Lib.byteCells (lineB [grapB, itB G.q, itB G.n])) wx ∧ RowKit.Below w1.heap.size w1 wx)
  case first =>
    have HD1 : RowKit.Below W0.heap.size W0 W0.drew := (RowKit.Below.refl _ _).drew
    go_region_held3 (fun V => V.cell? ⟨w.heap.size, 0, none⟩ = some (.int .i64 G.q) ∧ V.cell? ⟨w.heap.size, 1, none⟩ = some (.int .i64 G.n) ∧ RowKit.Below w1.heap.size W0 V)
      ((go_split_ands; refine HK0.out _ ?_; first
        | assumption
        | exact (RowKit.Below.refl _ _).drew
        | exact RowKit.Below.trans (by assumption) hB3
        | exact RowKit.Below.alloc (by assumption) (Nat.le_trans y2.size (RowKit.Below.size (by assumption))) _
        | fail))
      (first
        | (go_at_call_of 18 (Value.int .i64 G.q); go_split_ands; refine (itoa_any G.q HS.out.q _).mono ?_; rintro e w' ⟨rfl, rfl⟩)
        | (go_at_call_of 18 (Value.int .i64 G.n); go_split_ands; refine (itoa_any G.n HS.out.n _).mono ?_; rintro e w' ⟨rfl, rfl⟩)
        | (go_at_call 15; go_split_ands; refine (gLine_any w1.heap.size w1.heap.size W0.heap.size 3 [] grapB (itB G.q) (itB G.n) _ (by exact HBD.out.alloc _) (by exact VRow.new W0 9 [.string grapB, .string (itB G.q), .string (itB G.n)]) (Nat.le_refl _) (by decide) (itB_size HS.out.q) (itB_size HS.out.n) (by simp) (by exact Nat.le_trans y2.size (by simp))).mono ?_; rintro e w3 ⟨rfl, HB3, hB3, kt3⟩)
        | fail)
    all_goals (go_wp2_with fail; go_meet; exact ⟨HB3, y2.trans ((((RowKit.Below.refl _ _).alloc y2.size _).drew).trans hB3)⟩)
  case rest =>
    obtain ⟨hbd, hB2⟩ := hcut
    have d2 := (c0.below hB2 hz).at 2 rfl
    clear f0 f1 d0 HBD y2
    go_wp2
    go_loopw [24] (fun iv wr => ∃ k : Nat, k ≤ G.es.length ∧ iv = .int .i64 k ∧ Lib.IsBuilderF 48 5 w1.heap.size w1.heap.size (Lib.byteCells (lineB [grapB, itB G.q, itB G.n] ++ ((G.es.take k).map edT).flatten)) wr ∧ RowKit.Below w1.heap.size w1 wr ∧ Hid ((lineB [grapB, itB G.q, itB G.n] ++ ((G.es.take k).map edT).flatten).length ≤ 3003 * (k + 1))) (fun iv _ => G.es.length - (intOf iv).toNat)
    case atStart => exact ⟨0, by omega, rfl, by simpa using hbd, hB2, by unfold Hid; have := line_size (a := grapB) (by decide) (itB_size HS.out.q) (itB_size HS.out.n); simpa using this⟩
    case round =>
      obtain ⟨k, hk, rfl, hbk, hB, HL⟩ := hrel
      have HBK := hidI hbk
      clear hbk
      by_cases hlt : k < G.es.length
      · obtain ⟨b3, o3, rfl, hb3, e0, e1, e2⟩ := (HIN.out.below (x1.trans (hB.mono x1.size))).get3 k hlt rfl
        have HT : Hid (lineB [grapB, itB G.q, itB G.n] ++ ((G.es.take (k + 1)).map edT).flatten = (lineB [grapB, itB G.q, itB G.n] ++ ((G.es.take k).map edT).flatten) ++ edT G.es[k]) := by
          unfold Hid; rw [txt_snoc G.es k hlt, List.append_assoc]
        have HX := hidI (HS.out.es G.es[k] (List.getElem_mem hlt))
        have hbz := hB.size
        generalize lineB [grapB, itB G.q, itB G.n] ++ ((G.es.take k).map edT).flatten = M at *
        generalize G.es[k] = x at *
        go_upto_region 9 with fail
        obtain ⟨W1, hW1⟩ : ∃ W1, W1 = wr.alloc (.cells #[.int .i64 x.f, .int .i64 x.l, .int .i64 x.t] 40) := ⟨_, rfl⟩
        have y0 : VRow W1 wr.heap.size 40 [.int .i64 x.f, .int .i64 x.l, .int .i64 x.t] := by subst hW1; exact VRow.new wr _ _
        have HB1 : Hid (Lib.IsBuilderF 48 5 w1.heap.size w1.heap.size (Lib.byteCells M) W1) := by subst hW1; exact HBK.out.alloc _
        have hb1 : RowKit.Below w1.heap.size w1 W1 := by subst hW1; exact hB.alloc hbz _
        rw [← hW1]
        clear hW1 e0 e1 e2
        have g0 := y0.at 0 rfl; have g1 := y0.at 1 rfl; have g2 := y0.at 2 rfl
        have hzz := hb1.size
        have HK1 : Hid (∀ V, KT W1 V → V.cell? ⟨wr.heap.size, 0, none⟩ = some (.int .i64 x.f) ∧ V.cell? ⟨wr.heap.size, 1, none⟩ = some (.int .i64 x.l) ∧ V.cell? ⟨wr.heap.size, 2, none⟩ = some (.int .i64 x.t) ∧ KT W1 V) := fun V h =>
          have h' := h.vrow y0
          ⟨h'.at 0 rfl, h'.at 1 rfl, h'.at 2 rfl, h⟩
        go_region_held3 (fun V => V.cell? ⟨wr.heap.size, 0, none⟩ = some (.int .i64 x.f) ∧ V.cell? ⟨wr.heap.size, 1, none⟩ = some (.int .i64 x.l) ∧ V.cell? ⟨wr.heap.size, 2, none⟩ = some (.int .i64 x.t) ∧ KT W1 V)
          ((go_split_ands; refine HK1.out _ ?_; first
            | assumption
            | exact KT.below (RowKit.Below.refl _ _).drew
            | exact KT.trans (by assumption) kt3
            | exact KT.trans (by assumption) (KT.below ((RowKit.Below.refl _ _).alloc (Nat.le_refl _) _))
            | exact KT.trans (by assumption) (KT.below ((RowKit.Below.refl _ _).alloc (Nat.le_refl _) _).drew)
            | fail))
          (first
            | (go_at_call_of 18 (Value.int .i64 x.f); go_split_ands; refine (itoa_any x.f HX.out.1 _).mono ?_; rintro e w' ⟨rfl, rfl⟩)
            | (go_at_call_of 18 (Value.int .i64 x.l); go_split_ands; refine (itoa_any x.l HX.out.2.1 _).mono ?_; rintro e w' ⟨rfl, rfl⟩)
            | (go_at_call_of 18 (Value.int .i64 x.t); go_split_ands; refine (itoa_any x.t HX.out.2.2 _).mono ?_; rintro e w' ⟨rfl, rfl⟩)
            | (go_at_call 15; go_split_ands; refine (gLine_any w1.heap.size w1.heap.size W1.heap.size 3 M (itB x.f) (itB x.l) (itB x.t) _ (by exact HB1.out.alloc _) (by exact VRow.new W1 9 [.string (itB x.f), .string (itB x.l), .string (itB x.t)]) (Nat.le_refl _) (itB_size HX.out.1) (itB_size HX.out.2.1) (itB_size HX.out.2.2) (by have := HL.out; omega) (by exact Nat.le_trans hzz (by simp))).mono ?_; rintro e w3 ⟨rfl, HB3, hB3, kt3⟩)
            | fail)
        all_goals
          have hB4 := hb1.trans ((((RowKit.Below.refl _ _).alloc hzz _).drew).trans hB3)
          go_wp2
          go_roundw
          case rel => exact ⟨k + 1, by omega, by go_num, by rw [HT.out]; exact HB3, hB4, by rw [Hid, HT.out, List.length_append]; have := line_size (itB_size HX.out.1) (itB_size HX.out.2.1) (itB_size HX.out.2.2); have := HL.out; unfold edT; omega⟩
          case measure => simp [intOf]; omega
      · obtain rfl : k = G.es.length := by omega
        rw [List.take_length] at HBK
        have hbz := hB.size
        go_wp2_with (go_at_call 19; refine (Tryd.Builder_String_any_f w1.heap.size w1.heap.size _ wr HBK.out hbz).mono ?_; rintro e w4 ⟨rfl, hbd4, hB4⟩)
        go_ret2
        exact ⟨rfl, x1.trans ((hB.trans hB4).mono x1.size)⟩
end Go.Proofs.YtcfmpplhghkagaaDoor
namespace Go.Proofs.YtcfmpplhghkagaaDoor
open Go.RowKit Go.Sort Go.Shelf Go.Lib

def goldG : Gr := ⟨2, 2, [⟨0, 0, 0⟩, ⟨0, 1, 1⟩, ⟨1, 0, 0⟩]⟩
set_option maxRecDepth 100000 in
set_option maxHeartbeats 1000000 in
theorem golden_any (w : World) : Calls Tryd.prog 10 #[] w (RetG goldG w) := by
  go_enter Tryd.func10, Tryd.ntmps10
  go_wp2
  have b1 : VRow ((w.alloc (.cells #[.int .i64 2, .int .i64 2, .slice (some ⟨w.heap.size + 1, 0, none⟩) 3 3] 24)).alloc (.cells #[.int .i64 0, .int .i64 0, .int .i64 0, .int .i64 0, .int .i64 1, .int .i64 1, .int .i64 1, .int .i64 0, .int .i64 0] 40)) w.heap.size 24 [.int .i64 2, .int .i64 2, .slice (some ⟨w.heap.size + 1, 0, none⟩) 3 3] := (VRow.new w _ _).alloc _
  have y0 := b1.at 0 rfl; have y1 := b1.at 1 rfl; have y2 := b1.at 2 rfl
  have hown : ((w.alloc (.cells #[.int .i64 2, .int .i64 2, .slice (some ⟨w.heap.size + 1, 0, none⟩) 3 3] 24)).alloc (.cells (cat goldG.es).toArray 40)).ownsRow (w.heap.size + 1) 40 3 (.slice (some ⟨w.heap.size + 1, 0, none⟩) 3 3) 3 (cat goldG.es) :=
    ⟨rfl, .inr ⟨w.heap.size + 1, 3, (cat goldG.es).toArray, rfl, Nat.le_refl _, heap_new1 w _ _, Nat.le_refl _, by simp [maxLen], rfl, rfl⟩⟩
  have x1 : RowKit.Below w.heap.size w ((w.alloc (.cells #[.int .i64 2, .int .i64 2, .slice (some ⟨w.heap.size + 1, 0, none⟩) 3 3] 24)).alloc (.cells (cat goldG.es).toArray 40)) := ((RowKit.Below.refl _ _).alloc (Nat.le_refl _) _).alloc (by simp) _
  refine bodyPost_ret (v := .agg #[.int .i64 2, .int .i64 2, .slice (some ⟨w.heap.size + 1, 0, none⟩) 3 3]) (by simp [results, Tryd.results10, go_sem, y0, y1, y2]) rfl ?_
  exact ⟨_, _, _, rfl, own_conv hown rfl (by omega), x1⟩
end Go.Proofs.YtcfmpplhghkagaaDoor
namespace Go.Proofs.YtcfmpplhghkagaaDoor
open Go.RowKit Go.Shelf
attribute [local go_sem] Oper.semAt_some

/-- What the sequence yields among the first k edges. -/
def lvL (es : List Ed) (s : Int) (k : Nat) : List (Nat × Ed) := ((List.range k).filter (fun i => decide ((eget es i).f = s))).map (fun i => (i, eget es i))
theorem lvL_zero (es : List Ed) (s : Int) : lvL es s 0 = [] := rfl
theorem lvL_succ {es : List Ed} {s : Int} {k : Nat} (h : k < es.length) : lvL es s (k + 1) = lvL es s k ++ (if es[k].f = s then [(k, es[k])] else []) := by
  unfold lvL
  rw [List.range_succ, List.filter_append, List.map_append]
  congr 1
  by_cases hs : es[k].f = s <;> simp [eget_eq es k h, hs]
theorem lvL_len (es : List Ed) (s : Int) (k : Nat) : (lvL es s k).length ≤ k := by
  unfold lvL
  rw [List.length_map]
  exact Nat.le_trans (List.length_filter_le _ _) (by simp)
/-- All blocks below b, but a, are as they were. -/
def KX (a b : Nat) (W W' : World) : Prop := ∀ i, i < b → i ≠ a → W'.heap[i]? = W.heap[i]?
theorem KX.refl (a b : Nat) (W : World) : KX a b W W := fun _ _ _ => rfl
theorem KX.trans {a b : Nat} {X Y Z : World} (h : KX a b X Y) (k : KX a b Y Z) : KX a b X Z := fun i h1 h2 => (k i h1 h2).trans (h i h1 h2)
theorem KX_b {a b n : Nat} (hn : b ≤ n) (W : World) (l : Nat) (o o' : Obj) (hl : n ≤ l) (_ : W.heap[l]? = some o) (_ : o.isCells = false) (_ : o.isWalk = false) : KX a b W (W.putObj l o') :=
  fun i h1 _ => World.putObj_heap_other (by omega)
theorem KX.boxed {a b B : Nat} {t : TypeId} {v : Value} {W W' : World} (h : KX a b W W') (h1 : B < b) (h2 : B ≠ a) (hb : Boxed W B t v) : Boxed W' B t v := (h B h1 h2).trans hb
/-- Edges in memory, in a block below n. -/
def SgB (n : Nat) (w : World) (p : Option Addr) (l : List Ed) : Prop :=
  l = [] ∨ ∃ b off, p = some ⟨b, off, none⟩ ∧ b < n ∧ b < w.heap.size ∧ ∀ i (h : i < l.length) j, j < 3 → w.cell? ⟨b, off + i * 3 + j, none⟩ = (edE l[i])[j]?
theorem SgB.of {n : Nat} {w : World} {p : Option Addr} {l : List Ed} (h : Sg 3 w edE p l) (hn : w.heap.size ≤ n) : SgB n w p l := by
  rcases h with h | ⟨b, off, h1, h2, h3⟩
  · exact .inl h
  · exact .inr ⟨b, off, h1, by omega, h2, h3⟩
theorem SgB.sg {n : Nat} {w : World} {p : Option Addr} {l : List Ed} (h : SgB n w p l) : Sg 3 w edE p l := by
  rcases h with h | ⟨b, off, h1, _, h2, h3⟩
  · exact .inl h
  · exact .inr ⟨b, off, h1, h2, h3⟩
theorem SgB.kept {n : Nat} {w w' : World} {p : Option Addr} {l : List Ed} (h : SgB n w p l) (hk : ∀ i, i < n → w'.heap[i]? = w.heap[i]?) : SgB n w' p l := by
  rcases h with h | ⟨b, off, h1, h2, h3, h4⟩
  · exact .inl h
  · have e := hk b h2
    have hlt : b < w'.heap.size := by
      rcases Nat.lt_or_ge b w'.heap.size with h' | h'
      · exact h'
      · rw [Array.getElem?_eq_none h', Array.getElem?_eq_getElem h3] at e; cases e
    exact .inr ⟨b, off, h1, h2, hlt, fun i hi j hj => (World.cell?_of_block (w := w) (a := ⟨b, off + i * 3 + j, none⟩) e).trans (h4 i hi j hj)⟩
theorem SgB.kx {n a b : Nat} {w w' : World} {p : Option Addr} {l : List Ed} (h : SgB n w p l) (hk : KX a b w w') (h1 : n ≤ b) (h2 : n ≤ a) : SgB n w' p l :=
  h.kept (fun i hi => hk i (by omega) (by omega))
theorem SgB.alloc {n : Nat} {w : World} {p : Option Addr} {l : List Ed} (h : SgB n w p l) (hn : n ≤ w.heap.size) (o : Obj) : SgB n (w.alloc o) p l :=
  h.kept (fun i hi => Below.heap_alloc w o i (by omega))
def encL (x : Nat × Ed) : Array Value := #[.int .i64 (x.1 : Int), .agg #[.int .i64 x.2.f, .int .i64 x.2.l, .int .i64 x.2.t]]

end Go.Proofs.YtcfmpplhghkagaaDoor
namespace Go.Proofs.YtcfmpplhghkagaaDoor
open Go.RowKit Go.Sort Go.Shelf Go.Lib

theorem equalI_any (l m : List Int) (p p' : Option Addr) (c c' : Nat) (w : World) (hl : Sl w (Value.int .i64) p l) (hm : Sl w (Value.int .i64) p' m) (h1 : l.length ≤ 9223372036854775807) (h2 : m.length ≤ 9223372036854775807) :
    Calls Tryd.prog 14 #[.slice p l.length c, .slice p' m.length c'] w fun e w' => e = .returned (.bool (decide (l = m))) ∧ Dr w w' := by
  by_cases hlen : l.length = m.length
  · rcases Nat.eq_zero_or_pos l.length with h0 | h0
    · have e1 : l = [] := List.length_eq_zero_iff.1 h0
      have e2 : m = [] := List.length_eq_zero_iff.1 (by omega)
      subst e1; subst e2
      refine (Tryd.slices_Equal_int_empty p p' c 0 c' w (by omega)).mono ?_
      rintro e w' ⟨rfl, rfl⟩
      exact ⟨rfl, Dr.refl _⟩
    · obtain ⟨b, off, rfl, hb, hc⟩ := hl.get 0 h0
      obtain ⟨b', off', rfl, hb', hc'⟩ := hm.get 0 (by omega)
      refine (Tryd.slices_Equal_int b off l.length c b' off' m.length c' l m w (Nat.le_refl _) (Nat.le_refl _) h1 h2 (fun j hj => by rw [hc j hj, List.getD_eq_getElem?_getD, List.getElem?_eq_getElem hj]; rfl) (fun j hj => by rw [hc' j hj, List.getD_eq_getElem?_getD, List.getElem?_eq_getElem hj]; rfl)).mono ?_
      rintro e w' ⟨rfl, hD⟩
      rw [List.take_length, List.take_length]
      refine ⟨?_, hD⟩
      by_cases e : l = m <;> simp [e]
  · have hne : l ≠ m := fun e => hlen (by rw [e])
    refine (Tryd.slices_Equal_int_lens p p' l.length c m.length c' w hlen).mono ?_
    rintro e w' ⟨rfl, rfl⟩
    exact ⟨by rw [decide_eq_false hne], Dr.refl _⟩

theorem gold_txt : (⟨(txtG goldG).toArray⟩ : ByteArray) = ⟨#[103, 114, 97, 112, 104, 32, 50, 32, 50, 10, 48, 32, 48, 32, 48, 10, 48, 32, 49, 32, 49, 10, 49, 32, 48, 32, 48, 10]⟩ := by
  have : txtG goldG = [103, 114, 97, 112, 104, 32, 50, 32, 50, 10, 48, 32, 48, 32, 48, 10, 48, 32, 49, 32, 49, 10, 49, 32, 48, 32, 48, 10] := by decide +kernel
  rw [this]
def moreG : Gr := ⟨2, 3, goldG.es ++ [⟨1, 1, 2⟩]⟩
theorem gold_vg : Vg goldG := chkG_ok.1 (by decide)
theorem gold_det : detA goldG = (true, 0) := by decide
theorem gold_sm : Sm goldG := ⟨by decide, by decide, by decide⟩
theorem more_ess : essA moreG = (goldG, [0, 1], 0) := by
  rw [essA_ok (by decide)]
  have : ess moreG.es (upto moreG.n.toNat) = [0, 1] := by
    rw [ess_go (by decide), show essS moreG.es (upto moreG.n.toNat) = [0, 1] by decide, ess_stop (by decide)]
  rw [this]
  rfl
theorem gPrint_gold (p : Option Addr) (c : Nat) (w : World) (hin : Sg 3 w edE p goldG.es) :
    Calls Tryd.prog 6 #[(.agg #[.int .i64 goldG.q, .int .i64 goldG.n, .slice p goldG.es.length c])] w fun e w' => e = .returned (.tuple #[.string ⟨#[103, 114, 97, 112, 104, 32, 50, 32, 50, 10, 48, 32, 48, 32, 48, 10, 48, 32, 49, 32, 49, 10, 49, 32, 48, 32, 48, 10]⟩, .int .i64 0]) ∧ RowKit.Below w.heap.size w w' := by
  have := gPrint_small goldG p c w hin gold_vg gold_sm
  rw [gold_txt] at this
  exact this

set_option maxRecDepth 100000 in
set_option maxHeartbeats 2000000 in
theorem awake_any (w : World) : Calls Tryd.prog 5 #[] w fun e w' => e = .returned (.bool true) ∧ RowKit.Below w.heap.size w w' := by
  obtain ⟨i0, hi0, hz0, hz1, hz2⟩ := info_parts infoE
  have HD := hidI gold_det
  have HP := hidI gPrint_gold
  have HM : Hid (essA ⟨2, 3, goldG.es ++ [⟨1, 1, 2⟩]⟩ = (goldG, [0, 1], 0)) := more_ess
  have HL : Hid (goldG.es.length = 3) := rfl
  have HG := hidI (golden_any w)
  generalize goldG = G at *
  go_enter Tryd.func5, Tryd.ntmps5
  go_wp2_with fail
  refine HG.out.mono ?_
  rintro e w1 ⟨p1, m1, c1, rfl, hown1, hB1⟩
  obtain ⟨p1', c1', hv, hs1, hc1, _⟩ := own_sg hown1
  cases hv
  have hl := HL.out
  have hlb : G.es.length ≤ 1000 := by omega
  clear hown1 hc1 hl
  go_wp2_with fail
  have b1 : VRow (w1.alloc (.cells #[.int .i64 G.q, .int .i64 G.n, .slice p1 G.es.length c1] 24)) w1.heap.size 24 [.int .i64 G.q, .int .i64 G.n, .slice p1 G.es.length c1] := VRow.new w1 _ _
  have x1 : RowKit.Below w.heap.size w (w1.alloc (.cells #[.int .i64 G.q, .int .i64 G.n, .slice p1 G.es.length c1] 24)) := hB1.alloc hB1.size _
  have hsA := hs1.below ((RowKit.Below.refl _ w1).alloc (Nat.le_refl _) (.cells #[.int .i64 G.q, .int .i64 G.n, .slice p1 G.es.length c1] 24))
  have hzA := hB1.size
  generalize w1.alloc (.cells #[.int .i64 G.q, .int .i64 G.n, .slice p1 G.es.length c1] 24) = wA at *
  generalize w1.heap.size = B at *
  clear hs1 hB1
  refine (gDet_any G p1 c1 wA hsA (by omega)).mono ?_
  rw [HD.out]
  rintro e w2 ⟨rfl, hB2⟩
  have b2 := b1.below hB2 b1.lt
  have x2 := x1.trans (hB2.mono x1.size)
  have hs2 := hsA.below hB2
  clear b1 x1 hsA hB2
  have f0 := b2.at 0 rfl; have f1 := b2.at 1 rfl; have f2 := b2.at 2 rfl
  go_wp2_with fail
  refine (HP.out p1 c1 w2 hs2).mono ?_
  rintro e w3 ⟨rfl, hB3⟩
  clear f0 f1 f2
  have b3 := b2.below hB3 b2.lt
  have x3 := x2.trans (hB3.mono x2.size)
  have hs3 := hs2.below hB3
  clear b2 x2 hs2 hB3
  have f0 := b3.at 0 rfl; have f1 := b3.at 1 rfl; have f2 := b3.at 2 rfl
  go_wp2_with fail
  refine (cloneE_any G.es p1 c1 w3 hs3 (by omega)).mono ?_
  rintro e w4 ⟨v4, rfl, hown4, hB4⟩
  clear f0 f1 f2
  have b4 := b3.below hB4 b3.lt
  have x4 := x3.trans (hB4.mono x3.size)
  have hk3 : SgB w3.heap.size w4 p1 G.es := (SgB.of hs3 (Nat.le_refl _)).kept (fun i hi => hB4.block i hi)
  have hz3 := hB4.size
  have hB3 : B < w3.heap.size := b3.lt
  clear b3 hs3 hB4
  have hnew := cell_new3 w4 ⟨1, 1, 2⟩ 40 w4.heap.size rfl
  have hownA := hown4.alloc (.cells (edE ⟨1, 1, 2⟩).toArray 40)
  have x4A := x4.alloc x4.size (.cells (edE ⟨1, 1, 2⟩).toArray 40)
  have b4A := b4.alloc (.cells (edE ⟨1, 1, 2⟩).toArray 40)
  have hk4 := hk3.alloc hz3 (.cells (edE ⟨1, 1, 2⟩).toArray 40)
  have hne : ∀ j, v4.ownBlock = some j → w3.heap.size ≤ j := fun j e => (hown4.lt j e).1
  go_wp2_with (at_builtin; refine wpList_append_own _ rfl _ _ 22 rfl w3.heap.size 40 i0 _ 3 24 Tryd.underlying22 hi0 hz0 hz1 hz2 rfl (by decide) _ _ _ rfl hownA ⟨w4.heap.size, 0, none⟩ 1 1 (cat [⟨1, 1, 2⟩]) rfl rfl hnew (cat_one _) (by simp [maxLen]; omega) (by omega) (by simp; omega) ?_; intro v' w5 hown' hgrow _; rw [← cat_app] at hown'; obtain ⟨pv, mv, cv, rfl⟩ := own_shape hown')
  have b5 := (b4A.grown hgrow (fun e => by have := hne _ e.symm; omega)).alloc (.cells #[.int .i64 2, .int .i64 3, .slice pv mv cv] 24)
  have x5 := x4A.grown hgrow (Nat.le_trans x4.size (by simp)) (fun j e => by have := hne _ e; omega)
  have x6 := x5.alloc x5.size (.cells #[.int .i64 2, .int .i64 3, .slice pv mv cv] 24)
  have hgz := hgrow.size
  have hk5 : SgB w3.heap.size w5 p1 G.es := hk4.kept (fun i hi => hgrow.block i (by simp; omega) (fun e => by have := hne _ e.symm; omega))
  have hk6 := hk5.alloc (by rw [World.size_alloc] at hgz; omega) (.cells #[.int .i64 2, .int .i64 3, .slice pv mv cv] 24)
  have hz6 : w3.heap.size ≤ (w5.alloc (.cells #[.int .i64 2, .int .i64 3, .slice pv mv cv] 24)).heap.size := by rw [World.size_alloc] at hgz ⊢; omega
  have hE : Hid (Calls Tryd.prog 13 #[.agg #[.int .i64 2, .int .i64 3, .slice pv mv cv]] (w5.alloc (.cells #[.int .i64 2, .int .i64 3, .slice pv mv cv] 24)) (RetEs G [0, 1] 0 (w5.alloc (.cells #[.int .i64 2, .int .i64 3, .slice pv mv cv] 24)))) := by
    obtain ⟨_, _, hv, hs5, _⟩ := own_sg hown'
    cases hv
    have := gEss_any ⟨2, 3, G.es ++ [⟨1, 1, 2⟩]⟩ pv cv _ (hs5.below ((RowKit.Below.refl _ w5).alloc (Nat.le_refl _) (.cells #[.int .i64 2, .int .i64 3, .slice pv (G.es ++ [(⟨1, 1, 2⟩ : Ed)]).length cv] 24))) (by simp; omega)
    rw [HM.out] at this
    exact this
  clear hown' hk5 hk4 hk3 b4A b4 x4A x4 x5 hownA hown4 hnew hgrow
  generalize w5.alloc (.cells #[.int .i64 2, .int .i64 3, .slice pv mv cv] 24) = w6 at *
  refine hE.out.mono ?_
  rintro e w7 ⟨p7, m7, c7, q7, d7, rfl, hown7, howni, hB7⟩
  clear hE
  obtain ⟨p7', c7', hv7, hs7, _, _⟩ := own_sg hown7
  cases hv7
  obtain ⟨q7', d7', hq7, hi7⟩ := own_sl howni
  cases hq7
  have b7 := b5.below hB7 b5.lt
  have x7 := x6.trans (hB7.mono x6.size)
  have hk7 : SgB w3.heap.size w7 p1 G.es := hk6.kept (fun i hi => hB7.block i (by omega))
  clear hown7 howni
  have b8 := b7.alloc (.cells #[.int .i64 G.q, .int .i64 G.n, .slice p7 G.es.length c7] 24)
  have b9 : VRow (w7.alloc (.cells #[.int .i64 G.q, .int .i64 G.n, .slice p7 G.es.length c7] 24)) w7.heap.size 24 [.int .i64 G.q, .int .i64 G.n, .slice p7 G.es.length c7] := VRow.new w7 _ _
  have x8 := x7.alloc x7.size (.cells #[.int .i64 G.q, .int .i64 G.n, .slice p7 G.es.length c7] 24)
  have s8 := hs7.below ((RowKit.Below.refl _ w7).alloc (Nat.le_refl _) (.cells #[.int .i64 G.q, .int .i64 G.n, .slice p7 G.es.length c7] 24))
  have i8 := hi7.below ((RowKit.Below.refl _ w7).alloc (Nat.le_refl _) (.cells #[.int .i64 G.q, .int .i64 G.n, .slice p7 G.es.length c7] 24))
  have hb5 := b5.lt
  have k8 := (hk7.alloc (Nat.le_trans hz6 hB7.size) (.cells #[.int .i64 G.q, .int .i64 G.n, .slice p7 G.es.length c7] 24)).sg
  clear b7 x7 hs7 hi7 hk7 hB7 x6 b5 hk6
  go_upto_region 6 with fail
  have f0 := b8.at 0 rfl; have f1 := b8.at 1 rfl; have f2 := b8.at 2 rfl
  have g0 := b9.at 0 rfl; have g1 := b9.at 1 rfl; have g2 := b9.at 2 rfl
  generalize (w7.alloc (.cells #[.int .i64 G.q, .int .i64 G.n, .slice p7 G.es.length c7] 24)) = w8 at *
  go_wp2_with fail
  refine (gSame_any G G p7 p1 c7 c1 w8 s8 k8 (by omega) (by omega)).mono ?_
  rw [sameG_refl]
  rintro e w9 ⟨rfl, hB9⟩
  have x9 := x8.trans (hB9.mono x8.size)
  have i9 := i8.below hB9
  clear f0 f1 f2 g0 g1 g2
  go_wp2_with fail
  have hnI : Sl (w9.alloc (.cells #[.int .i64 0, .int .i64 1] 3)) (Value.int .i64) (some ⟨w9.heap.size, 0, none⟩) [0, 1] := Sl.of_vrow (VRow.new w9 3 [.int .i64 0, .int .i64 1])
  refine (equalI_any [0, 1] [0, 1] q7 (some ⟨w9.heap.size, 0, none⟩) d7 2 (w9.alloc (.cells #[.int .i64 0, .int .i64 1] 3)) (i9.below ((RowKit.Below.refl _ w9).alloc (Nat.le_refl _) _)) hnI (by simp) (by simp)).mono ?_
  rintro e w10 ⟨rfl, hD⟩
  have x10 := (x9.alloc x9.size (.cells #[.int .i64 0, .int .i64 1] 3)).trans (hD.below _)
  go_wp2
  go_ret
  exact ⟨by simp, x10⟩
end Go.Proofs.YtcfmpplhghkagaaDoor
namespace Go.Proofs.YtcfmpplhghkagaaDoor
open Go.RowKit Go.Sort Go.Shelf Go.Lib

theorem great_small {G : Gr} (h : greatG G = false) : G.es.length ≤ 30 ∧ (G.n ≤ 10 ∨ 64 < G.n) := by
  unfold greatG at h
  simp only [Bool.or_eq_false_iff, Bool.and_eq_false_iff, decide_eq_false_iff_not] at h
  omega
theorem rows3 {W w' : World} {b : Nat} {G : Gr} {p : Option Addr} {c : Nat} (h : VRow W b 24 [.int .i64 G.q, .int .i64 G.n, .slice p G.es.length c]) (hB : RowKit.Below W.heap.size W w') : (w'.cell? ⟨b, 0, none⟩ = some (.int .i64 G.q) ∧ w'.cell? ⟨b, 1, none⟩ = some (.int .i64 G.n) ∧ w'.cell? ⟨b, 2, none⟩ = some (.slice p G.es.length c)) := by
  have h' := h.below hB h.lt
  exact ⟨h'.at 0 rfl, h'.at 1 rfl, h'.at 2 rfl⟩
theorem gSame_s (G H : Gr) (p p' : Option Addr) (c c' : Nat) (s : Bool) (w : World) (hs : sameG G H = s) (hG : Sg 3 w edE p G.es) (hH : Sg 3 w edE p' H.es) (lG : G.es.length ≤ 9223372036854775807) (lH : H.es.length ≤ 9223372036854775807) :
    Calls Tryd.prog 8 #[(.agg #[.int .i64 G.q, .int .i64 G.n, .slice p G.es.length c]), (.agg #[.int .i64 H.q, .int .i64 H.n, .slice p' H.es.length c'])] w fun e w' => e = .returned (.bool s) ∧ RowKit.Below w.heap.size w w' := by
  subst hs; exact gSame_any G H p p' c c' w hG hH lG lH
theorem makeA_len (q n : Int) (l : List Ed) : (makeA q n l).1.es.length ≤ l.length := by
  unfold makeA
  split
  · exact norm_le l
  · simp

end Go.Proofs.YtcfmpplhghkagaaDoor
namespace Go.Proofs.YtcfmpplhghkagaaDoor
open Go.ChangeShapes Go.WideShapes Go.ChangeAt Go.RowKit

theorem own : ownKnob Tryd.prog.godebug = none := by kernel_rfl
theorem laidOut : laidOutB Tryd.prog = true := by kernel_rfl

theorem trodAll_below {H : Type} {enc : TypeId × Value → H} {W W' : World} (hb : Below W.heap.size W W') :
    ∀ (ts : List TypeId) (vs : List Value) (ds : List (DataW H)) (p : List MemPlace), (∀ t ∈ ts, Tryd.prog.readableRec t = true ∧ t < Tryd.prog.types.size) →
      DataW.TrodAll enc Tryd.prog W 0 (fun _ => true) true ts vs ds p → (∀ x ∈ p, x.block < W.heap.size) →
      DataW.TrodAll enc Tryd.prog W' 0 (fun b => decide (b < W.heap.size)) true ts vs ds p
  | [], vs, ds, p, _, h, _ => by
    obtain ⟨rfl, rfl, rfl⟩ := trodAll_nil h
    exact trodAll_mk0
  | t :: ts, vs, ds, p, ht, h, hlt => by
    obtain ⟨v, vs', d, ds', p', q', rfl, rfl, rfl, h0, h1⟩ := trodAll_cons h
    exact trodAll_cons_mk (Below.trod laidOut (ht t List.mem_cons_self).1 (ht t List.mem_cons_self).2 h0 hb (fun x hx => hlt x (List.mem_append_left _ hx)))
      (trodAll_below hb ts vs' ds' q' (fun t h => ht t (List.mem_cons_of_mem _ h)) h1 (fun x hx => hlt x (List.mem_append_right _ hx)))

/-- What the row asks behind the call of a law. -/
theorem law_post {H : Type} {enc : TypeId × Value → H} {f : Func} {s : ChangeSpec} {W W' : World} {args : Array Value} {ds gs : List (DataW H)} {before : List MemPlace}
    (hW : DataW.Whole enc Tryd.prog f.params.toList s.vars false W args.toList ds gs before) (hv : s.vars = [])
    (hr : f.resultTypes = #[4]) (ht : ∀ t ∈ f.params.toList, Tryd.prog.readableRec t = true ∧ t < Tryd.prog.types.size)
    (hfr : (s.fn H (ds ++ gs)).results = [.lit (.bool true)]) (hfa : (s.fn H (ds ++ gs)).args = ds) (hfv : (s.fn H (ds ++ gs)).vars = [])
    (hB : Below W.heap.size W W') : s.post enc Tryd.prog f false true false false W args (.bool true) W' := by
  have hW' := hW
  obtain ⟨p, q, hA, hV, rfl, hfz, hnd⟩ := hW
  have hlt : ∀ x ∈ p, x.block < W.heap.size := fun x hx => hW'.lt x (List.mem_append_left _ hx)
  refine ⟨ds, gs, _, [] ++ [], p, [], hW', ?_, ?_, ?_, hB.frame _, fun h => by cases h⟩
  · rw [hfr, hr]; exact trodAll_mk1 (shut_bool Tryd.underlying4 true)
  · rw [hfa]; exact trodAll_below hB _ _ _ _ ht hA hlt
  · rw [hfv, hv]; exact rfl
end Go.Proofs.YtcfmpplhghkagaaDoor
namespace Go.Proofs.YtcfmpplhghkagaaDoor
open Go.Joins Go.ChangeShapes Go.WideShapes Go.ChangeAt Go.RowKit Go.Deep
open Go.ChangeMaps (open_string shut_string)

section
variable {H : Type} {enc : TypeId × Value → H} {P : Program} {w : World} {base : Nat} {spare : Nat → Bool} {held : Bool}
theorem open_slice_fields {t e : TypeId} {fs : Array Field} {fuel : Nat} {cs : List Value} {x : DataW H × List MemPlace} (ht : P.underlying t = some (.slice e)) (he : P.underlying e = some (.struct fs))
    (hone : oneCellFields P fs = true) (hC : P.cellsOf e = fs.size) (h : DataW.trod enc P w base spare held fuel t cs = some x) :
    (cs = [.slice none 0 0] ∧ x = (.nil, [])) ∨
    ∃ (a : Addr) (len cap m : Nat) (D : Nat → DataW H) (Pl : Nat → List MemPlace), cs = [.slice (some a) len cap] ∧ base ≤ a.block ∧ len ≤ cap ∧ cap ≤ maxLen ∧ m = (if spare a.block then cap else len) ∧
      x = (.slice ((List.range len).map D) ((List.range (m - len)).map fun j => D (len + j)), MemPlace.row a (m * fs.size) ++ (List.range m).flatMap Pl) ∧
      ∀ i, i < m → ∃ (ys : List (DataW H × List MemPlace)) (n : Nat), D i = .agg (ys.map (·.1)) ∧ Pl i = ys.flatMap (·.2) ∧ ys.length = fs.size ∧
        ∀ (j : Nat) (f : Field), fs[j]? = some f → ∃ (v : Value) (y : DataW H × List MemPlace), w.cell? (a.add (i * fs.size + j)) = some v ∧ ys[j]? = some y ∧ DataW.trod enc P w base spare held n f.type [v] = some y := by
  rcases open_slice ht h with h0 | ⟨a, len, cap, m, n, D, Pl, hcs, hb, hl, hm, hmm, hx, hi⟩
  · exact .inl h0
  · refine .inr ⟨a, len, cap, m, D, Pl, hcs, hb, hl, hm, hmm, by rw [hC] at hx; exact hx, fun i him => ?_⟩
    obtain ⟨cs', hc, ht'⟩ := hi i him
    rw [hC] at hc
    obtain ⟨ys, n', hn', hy, hlen, hyl, hf⟩ := DataW.trod_struct he ht'
    obtain ⟨_, hcl, hat⟩ := World.cells?_some hc
    simp only [Prod.mk.injEq] at hy
    refine ⟨ys, n', hy.1, hy.2, hyl, fun j f hj => ?_⟩
    obtain ⟨ho, hk⟩ := hone_of hone j f hj
    have hjl : j < fs.size := (Array.getElem?_eq_some_iff.1 hj).1
    have hcell := hat j hjl
    have hv : cs'[j]? = some (cs'[j]'(by omega)) := List.getElem?_eq_getElem (by omega)
    have h1 := hf j f hj
    rw [ho, hk] at h1
    have hone' : (cs'.drop j).take 1 = [cs'[j]'(by omega)] := by
      rw [List.drop_eq_getElem_cons (by omega)]
      rfl
    rw [hone'] at h1
    have hys : ys[j]? = some (ys[j]'(by omega)) := List.getElem?_eq_getElem (by omega)
    refine ⟨_, _, ?_, hys, h1.trans hys⟩
    rw [← Go.Deep.add_add, hcell, hv]
end
/-- Elements that each exist make a list. -/
theorem list_of {α : Type} {P : Nat → α → Prop} : ∀ (n : Nat), (∀ i, i < n → ∃ x, P i x) → ∃ l : List α, l.length = n ∧ ∀ i (h : i < l.length), P i l[i]
  | 0, _ => ⟨[], rfl, fun i h => by simp at h⟩
  | n + 1, h => by
    obtain ⟨l, hl, hp⟩ := list_of n (fun i hi => h i (by omega))
    obtain ⟨x, hx⟩ := h n (by omega)
    refine ⟨l ++ [x], by simp [hl], fun i hi => ?_⟩
    by_cases h2 : i < l.length
    · rw [List.getElem_append_left h2]; exact hp i h2
    · have : i = n := by simp at hi; omega
      subst this
      subst hl
      simpa using hx

theorem cellsInt : Tryd.prog.cellsOf 3 = 1 := by kernel_rfl
theorem cellsGraph : Tryd.prog.cellsOf 24 = 3 := by kernel_rfl
theorem readGraph : Tryd.prog.readableRec 24 = true ∧ 24 < Tryd.prog.types.size := ⟨by kernel_rfl, of_decide_eq_true (by kernel_rfl)⟩
theorem readInts : Tryd.prog.readableRec 41 = true ∧ 41 < Tryd.prog.types.size := ⟨by kernel_rfl, of_decide_eq_true (by kernel_rfl)⟩
theorem readInt : Tryd.prog.readableRec 3 = true ∧ 3 < Tryd.prog.types.size := ⟨by kernel_rfl, of_decide_eq_true (by kernel_rfl)⟩

/-- A list of ints inside what came in, as the walks take it. -/
theorem ints_at {H : Type} {enc : TypeId × Value → H} {W : World} {fuel : Nat} {v : Value} {y : DataW H × List MemPlace}
    (h : DataW.trod enc Tryd.prog W 0 (fun _ => true) true fuel 41 [v] = some y) (hlt : ∀ x ∈ y.2, x.block < W.heap.size) :
    ∃ (p : Option Addr) (l : List Int) (c : Nat), v = .slice p l.length c ∧ Sl W (Value.int .i64) p l ∧ l.length ≤ 9223372036854775807 ∧ l.length ≤ c := by
  rcases open_ints Tryd.underlying41 Tryd.underlying3 cellsInt h with ⟨hcs, hx⟩ | ⟨a, len, cap, zs, hcs, _, hl, hm, hz, hx, hcell, _⟩
  · simp at hcs
    subst hcs
    exact ⟨none, [], 0, rfl, Sl.nil _ _ _, by simp, by simp⟩
  · simp at hcs
    subst hcs hx
    simp only [if_true] at hz
    have hlen : (zs.take len).length = len := by simp; omega
    refine ⟨some a, zs.take len, cap, by rw [hlen], ?_, by rw [hlen]; unfold maxLen at hm; omega, by rw [hlen]; exact hl⟩
    by_cases h0 : len = 0
    · subst h0; exact .inl (by simp)
    · obtain ⟨b, off, spot⟩ := a
      have hspot : spot = none := by simpa [Addr.add] using World.cell?_spot (hcell 0 (by omega))
      subst hspot
      refine .inr ⟨b, off, rfl, hlt (.cell b off) (MemPlace.mem_row.2 ⟨0, by omega, by simp⟩), fun i hi => ?_⟩
      rw [← add_plain, hcell i (by omega)]
      have : i < zs.length := by omega
      simp [List.getD_eq_getElem?_getD, this]
/-- A list of edges inside what came in, as the walks take it. -/
theorem edges_at {H : Type} {enc : TypeId × Value → H} {W : World} {fuel : Nat} {v : Value} {y : DataW H × List MemPlace}
    (h : DataW.trod enc Tryd.prog W 0 (fun _ => true) true fuel 22 [v] = some y) (hlt : ∀ x ∈ y.2, x.block < W.heap.size) :
    ∃ (p : Option Addr) (l : List Ed) (c : Nat), v = .slice p l.length c ∧ Sg 3 W edE p l ∧ l.length ≤ 9223372036854775807 := by
  rcases open_slice_fields Tryd.underlying22 Tryd.underlying40 (by kernel_rfl) (by kernel_rfl) h with ⟨hcs, hx⟩ | ⟨a, len, cap, m, D, Pl, hcs, _, hl, hm, hmm, hx, hf⟩
  · simp at hcs
    subst hcs
    exact ⟨none, [], 0, rfl, Sg.nil _ _ _ _, by simp⟩
  · simp at hcs
    subst hcs hx
    simp only [if_true] at hmm
    subst hmm
    obtain ⟨l, hll, hp⟩ := list_of (P := fun i (s : Ed) => W.cell? (a.add (i * 3 + 0)) = some (.int .i64 s.f) ∧ W.cell? (a.add (i * 3 + 1)) = some (.int .i64 s.l) ∧ W.cell? (a.add (i * 3 + 2)) = some (.int .i64 s.t)) len (fun i hi => by
      obtain ⟨ys, n, _, _, _, hj⟩ := hf i (by omega)
      obtain ⟨v0, y0, hc0, _, h0⟩ := hj 0 _ rfl
      obtain ⟨v1, y1, hc1, _, h1⟩ := hj 1 _ rfl
      obtain ⟨v2, y2, hc2, _, h2⟩ := hj 2 _ rfl
      obtain ⟨n0, e0, _, _⟩ := DataW.trod_int Tryd.underlying3 h0
      obtain ⟨n1, e1, _, _⟩ := DataW.trod_int Tryd.underlying3 h1
      obtain ⟨n2, e2, _, _⟩ := DataW.trod_int Tryd.underlying3 h2
      simp at e0 e1 e2
      subst e0 e1 e2
      exact ⟨⟨n0, n1, n2⟩, hc0, hc1, hc2⟩)
    subst hll
    refine ⟨some a, l, _, rfl, ?_, by unfold maxLen at hm; omega⟩
    by_cases h0 : l.length = 0
    · exact .inl (List.length_eq_zero_iff.1 h0)
    · obtain ⟨b, off, spot⟩ := a
      have hspot : spot = none := by simpa [Addr.add] using World.cell?_spot (hp 0 (by omega)).1
      subst hspot
      refine .inr ⟨b, off, rfl, hlt (.cell b off) (List.mem_append_left _ (MemPlace.mem_row.2 ⟨0, Nat.mul_pos (by omega) (by decide), by simp⟩)), fun i hi j hj => ?_⟩
      have hc := hp i hi
      have : j = 0 ∨ j = 1 ∨ j = 2 := by omega
      rw [Nat.add_assoc, ← add_plain]
      rcases this with rfl | rfl | rfl
      · rw [hc.1]; rfl
      · rw [hc.2.1]; rfl
      · rw [hc.2.2]; rfl
set_option maxRecDepth 100000 in
/-- A graph that came in, as the walks take it. -/
theorem graph_in {H : Type} {enc : TypeId × Value → H} {W : World} {ps : List MemPlace} {v : Value} {d : DataW H} {base : Nat} (hval : Value.okWide Tryd.prog W .any base 24 v)
    (h : DataW.Trod enc Tryd.prog W 0 (fun _ => true) true 24 v d ps) (hlt : ∀ x ∈ ps, x.block < W.heap.size) :
    ∃ (G : Gr) (p : Option Addr) (c : Nat), v = .agg #[.int .i64 G.q, .int .i64 G.n, .slice p G.es.length c] ∧ Sg 3 W edE p G.es ∧ G.es.length ≤ 9223372036854775807 := by
  obtain ⟨v0, v1, v2, y0, y1, y2, n, rfl, rfl, rfl, h0, h1, h2⟩ := open_agg3 Tryd.underlying24 (by kernel_rfl) cellsGraph hval h
  obtain ⟨q, e0, _, _⟩ := DataW.trod_int Tryd.underlying3 h0
  obtain ⟨k, e1, _, _⟩ := DataW.trod_int Tryd.underlying3 h1
  simp at e0 e1
  subst e0 e1
  obtain ⟨p, l, c, rfl, s, b⟩ := edges_at h2 (fun x hx => hlt x (List.mem_append_right _ (List.mem_append_right _ hx)))
  exact ⟨⟨q, k, l⟩, p, c, rfl, s, b⟩

end Go.Proofs.YtcfmpplhghkagaaDoor
namespace Go.Proofs.YtcfmpplhghkagaaDoor
open Go

/-- The pieces between a byte. -/
def spl (c : UInt8) : List UInt8 → List (List UInt8)
  | [] => [[]]
  | b :: r => if b = c then [] :: spl c r else match spl c r with
    | [] => [[b]]
    | p :: q => (b :: p) :: q
theorem spl_ne (c : UInt8) : ∀ s, spl c s ≠ []
  | [] => by simp [spl]
  | b :: r => by
    unfold spl
    split
    · simp
    · split <;> simp
theorem spl_free (c : UInt8) : ∀ {s : List UInt8}, c ∉ s → spl c s = [s]
  | [], _ => rfl
  | b :: r, h => by
    rw [List.mem_cons, not_or] at h
    unfold spl
    rw [if_neg (fun e => h.1 e.symm), spl_free c h.2]
theorem spl_app (c : UInt8) : ∀ {a : List UInt8}, c ∉ a → ∀ s, spl c (a ++ c :: s) = a :: spl c s
  | [], _, s => by show spl c (c :: s) = _; unfold spl; rw [if_pos rfl]; congr 1; cases s <;> rfl
  | b :: a, h, s => by
    rw [List.mem_cons, not_or] at h
    show spl c (b :: (a ++ c :: s)) = _
    rw [spl, if_neg (fun e => h.1 e.symm), spl_app c h.2 s]
theorem spl_len (c : UInt8) : ∀ s : List UInt8, (spl c s).length = s.count c + 1
  | [] => rfl
  | b :: r => by
    have ih := spl_len c r
    unfold spl
    by_cases e : b = c
    · rw [if_pos e, List.length_cons, ih, e, List.count_cons_self]
    · rw [if_neg e, List.count_cons_of_ne e]
      split
      · rename_i h; exact absurd h (spl_ne c r)
      · rename_i p q h; rw [h] at ih; simpa using ih
theorem indexByte_app (c : UInt8) : ∀ {a : List UInt8}, c ∉ a → ∀ b, Lib.indexByte (a ++ c :: b) c = a.length
  | [], _, b => by show Lib.indexByte (c :: b) c = _; unfold Lib.indexByte; rw [if_pos (by simp)]; rfl
  | x :: a, h, b => by
    rw [List.mem_cons, not_or] at h
    show Lib.indexByte (x :: (a ++ c :: b)) c = _
    have ih := indexByte_app c h.2 b
    unfold Lib.indexByte
    have hx : (x == c) = false := by rw [beq_eq_false_iff_ne]; exact fun e => h.1 e.symm
    have h1 : ((a.length : Int) == -1) = false := by rw [beq_eq_false_iff_ne]; omega
    rw [hx, ih, h1]
    simp
/-- The kit's cut of a text at one byte is this one. -/
theorem splitK_spl (c : UInt8) : ∀ (k : Nat) (s : List UInt8), s.count c = k → Lib.splitK [c] 0 k s = spl c s
  | 0, s, h => by
    rw [spl_free c (List.count_eq_zero.1 h)]; rfl
  | k + 1, s, h => by
    have hm : c ∈ s := List.count_pos_iff.1 (by omega)
    obtain ⟨a, b, rfl, ha⟩ := List.eq_append_cons_of_mem hm
    have hi : Lib.index (a ++ c :: b) [c] = a.length := by rw [Lib.index_one]; exact indexByte_app c ha b
    rw [spl_app c ha, Lib.splitK, hi]
    have h1 : ((a.length : Int) == -1) = false := by rw [beq_eq_false_iff_ne]; omega
    rw [h1]
    have hc : b.count c = k := by
      rw [List.count_append, List.count_eq_zero.2 ha, List.count_cons_self] at h; omega
    have ed : (a ++ c :: b).drop ((a.length : Int).toNat + [c].length) = b := by
      rw [Int.toNat_natCast, List.length_singleton, List.drop_append, List.drop_eq_nil_of_le (by omega), show a.length + 1 - a.length = 1 by omega]; rfl
    have et : (a ++ c :: b).take ((a.length : Int).toNat + 0) = a := by
      rw [Int.toNat_natCast, Nat.add_zero, List.take_left']; rfl
    rw [ed, et, splitK_spl c k b hc]
    simp
end Go.Proofs.YtcfmpplhghkagaaDoor
namespace Go.Proofs.YtcfmpplhghkagaaDoor
open Go

def isD (b : UInt8) : Bool := decide (48 ≤ b.toNat) && decide (b.toNat ≤ 57)
/-- What digits say. -/
def valD (l : List UInt8) : Nat := l.foldl (fun n b => 10 * n + (b.toNat - 48)) 0
/-- A number as it is printed. -/
def canD (l : List UInt8) : Bool := l.all isD && !l.isEmpty && (decide (l.head? ≠ some 48) || decide (l.length = 1))
theorem valD_snoc (l : List UInt8) (b : UInt8) : valD (l ++ [b]) = 10 * valD l + (b.toNat - 48) := by unfold valD; rw [List.foldl_append]; rfl
theorem d_of (k : Nat) (h : k < 10) : (UInt8.ofNat (48 + k)).toNat = 48 + k := by
  rw [UInt8.toNat_ofNat']; omega
theorem isD_of (k : Nat) (h : k < 10) : isD (UInt8.ofNat (48 + k)) = true := by
  unfold isD; rw [d_of k h]; simp; omega
theorem dec_step (u : Nat) (h : ¬ u < 10) : Lib.decDigits u = Lib.decDigits (u / 10) ++ [UInt8.ofNat (48 + u % 10)] := by
  rw [Lib.decDigits, dif_neg h]
theorem dec_all (u : Nat) : (Lib.decDigits u).all isD = true := by
  induction u using Nat.strongRecOn with
  | ind u ih =>
    by_cases h : u < 10
    · rw [Lib.decDigits_one h, List.all_cons, isD_of u h]; rfl
    · rw [dec_step u h, List.all_append, ih (u / 10) (by omega), List.all_cons, isD_of (u % 10) (by omega)]; rfl
theorem dec_val (u : Nat) : valD (Lib.decDigits u) = u := by
  induction u using Nat.strongRecOn with
  | ind u ih =>
    by_cases h : u < 10
    · rw [Lib.decDigits_one h]
      show 10 * 0 + ((UInt8.ofNat (48 + u)).toNat - 48) = u
      rw [d_of u h]; omega
    · rw [dec_step u h, valD_snoc, ih (u / 10) (by omega), d_of (u % 10) (by omega)]; omega
theorem dec_ne (u : Nat) : Lib.decDigits u ≠ [] := by
  intro e
  have := Lib.decDigits_length u
  rw [e] at this
  have h := Lib.nDigits_pos u
  simp at this; omega
theorem dec_head (u : Nat) (h : (Lib.decDigits u).head? = some 48) : u = 0 := by
  induction u using Nat.strongRecOn with
  | ind u ih =>
    by_cases hu : u < 10
    · rw [Lib.decDigits_one hu] at h
      have h1 := congrArg UInt8.toNat (Option.some.inj h)
      rw [d_of u hu] at h1
      have : (48 : UInt8).toNat = 48 := rfl
      omega
    · have h2 : (Lib.decDigits (u / 10)).head? = some 48 := by
        rw [dec_step u hu] at h
        cases e : Lib.decDigits (u / 10) with
        | nil => exact absurd e (dec_ne _)
        | cons a b => rw [e] at h; exact h
      have := ih (u / 10) (by omega) h2
      omega
theorem dec_can (u : Nat) : canD (Lib.decDigits u) = true := by
  unfold canD
  rw [dec_all]
  have h1 : (Lib.decDigits u).isEmpty = false := by
    cases h : Lib.decDigits u with
    | nil => exact absurd h (dec_ne u)
    | cons a b => rfl
  rw [h1]
  by_cases h : (Lib.decDigits u).head? = some 48
  · have := dec_head u h
    subst this
    rw [Lib.decDigits_one (by omega)]; rfl
  · simp [h]
theorem d_back {b : UInt8} (h : isD b = true) : UInt8.ofNat (48 + (b.toNat - 48)) = b := by
  unfold isD at h
  rw [Bool.and_eq_true, decide_eq_true_eq, decide_eq_true_eq] at h
  rw [show 48 + (b.toNat - 48) = b.toNat by omega]
  exact UInt8.ofNat_toNat
theorem can_back : ∀ {l : List UInt8}, canD l = true → Lib.decDigits (valD l) = l ∧ (l.length ≠ 1 → 1 ≤ valD l) := by
  intro l
  induction h : l.length using Nat.strongRecOn generalizing l with
  | ind n ih =>
    intro hc
    subst h
    obtain rfl | ⟨l', b, rfl⟩ := List.eq_nil_or_concat l
    · cases hc
    rw [List.concat_eq_append] at *
    have hc0 := hc
    unfold canD at hc
    rw [Bool.and_eq_true, Bool.and_eq_true, List.all_append, Bool.and_eq_true] at hc
    obtain ⟨⟨⟨h1, h2⟩, _⟩, h3⟩ := hc
    have hb : isD b = true := by simpa using h2
    have hbb := hb
    unfold isD at hbb
    rw [Bool.and_eq_true, decide_eq_true_eq, decide_eq_true_eq] at hbb
    rw [valD_snoc]
    cases l' with
    | nil =>
      refine ⟨?_, fun h => absurd rfl h⟩
      show Lib.decDigits (10 * 0 + (b.toNat - 48)) = [b]
      rw [Lib.decDigits_one (by omega), show 10 * 0 + (b.toNat - 48) = b.toNat - 48 by omega, d_back hb]
    | cons a r =>
      have ha : a ≠ 48 := by
        intro e; subst e
        simp at h3
      have hc' : canD (a :: r) = true := by
        unfold canD
        rw [h1]
        simp [ha]
      obtain ⟨e1, e2⟩ := ih (a :: r).length (by simp) rfl hc'
      have hp : 1 ≤ valD (a :: r) := by
        cases r with
        | nil =>
          show 1 ≤ 10 * 0 + (a.toNat - 48)
          have hd : isD a = true := by simpa using h1
          unfold isD at hd
          rw [Bool.and_eq_true, decide_eq_true_eq, decide_eq_true_eq] at hd
          have : a.toNat ≠ 48 := fun e => ha (UInt8.toNat_inj.1 e)
          omega
        | cons c s => exact e2 (by simp)
      refine ⟨?_, fun _ => by omega⟩
      rw [dec_step _ (by omega), show (10 * valD (a :: r) + (b.toNat - 48)) / 10 = valD (a :: r) by omega, show (10 * valD (a :: r) + (b.toNat - 48)) % 10 = b.toNat - 48 by omega, e1, d_back hb]
end Go.Proofs.YtcfmpplhghkagaaDoor
