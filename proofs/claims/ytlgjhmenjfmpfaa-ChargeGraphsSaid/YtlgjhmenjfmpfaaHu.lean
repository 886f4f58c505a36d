/-
  Walks: the essential part of a graph, of the program (door seat).
-/
import Derived.Test.YtlgjhmenjfmpfaaGn
import Derived.Test.YtlgjhmenjfmpfaaGu
import Derived.Test.YtlgjhmenjfmpfaaGq
import Derived.Test.YtlgjhmenjfmpfaaHd
import Derived.Test.YtlgjhmenjfmpfaaPa
namespace Go.Proofs.Ytlgjhmenjfmpfaa
open Go.RowKit Go.Sort Go.Shelf Go.Lib

/-- The states that edges of the part enter, and those that they leave, among the first k edges. -/
def enE (es : List Ed) (st : List Int) (k : Nat) (a : Int) : Bool := (es.take k).any (fun x => (decide (x.f ∈ st) && decide (x.t ∈ st)) && decide (a = x.t))
def lfE (es : List Ed) (st : List Int) (k : Nat) (a : Int) : Bool := (es.take k).any (fun x => (decide (x.f ∈ st) && decide (x.t ∈ st)) && decide (a = x.f))
theorem enE_hit {es : List Ed} {st : List Int} {k : Nat} (h : k < es.length) (h1 : es[k].f ∈ st ∧ es[k].t ∈ st) (a : Int) : enE es st (k + 1) a = (decide (a = es[k].t) || enE es st k a) := by
  unfold enE; rw [any_snoc _ _ _ h]; simp [h1.1, h1.2, Bool.or_comm]
theorem lfE_hit {es : List Ed} {st : List Int} {k : Nat} (h : k < es.length) (h1 : es[k].f ∈ st ∧ es[k].t ∈ st) (a : Int) : lfE es st (k + 1) a = (decide (a = es[k].f) || lfE es st k a) := by
  unfold lfE; rw [any_snoc _ _ _ h]; simp [h1.1, h1.2, Bool.or_comm]
theorem enE_miss {es : List Ed} {st : List Int} {k : Nat} (h : k < es.length) (h1 : ¬ (es[k].f ∈ st ∧ es[k].t ∈ st)) (a : Int) : enE es st (k + 1) a = enE es st k a := by
  unfold enE; rw [any_snoc _ _ _ h]
  have : (decide (es[k].f ∈ st) && decide (es[k].t ∈ st)) = false := by simpa using h1
  rw [this]; simp
theorem lfE_miss {es : List Ed} {st : List Int} {k : Nat} (h : k < es.length) (h1 : ¬ (es[k].f ∈ st ∧ es[k].t ∈ st)) (a : Int) : lfE es st (k + 1) a = lfE es st k a := by
  unfold lfE; rw [any_snoc _ _ _ h]
  have : (decide (es[k].f ∈ st) && decide (es[k].t ∈ st)) = false := by simpa using h1
  rw [this]; simp
theorem essS_maps (es : List Ed) (st : List Int) : (st.filter fun x => enE es st es.length x && lfE es st es.length x) = essS es st := by
  refine List.filter_congr (fun a ha => ?_)
  unfold enE lfE essP cmsE goesE
  rw [List.take_length]
  congr 1
  · refine congrArg (fun f => es.any f) (funext fun x => ?_)
    by_cases e : a = x.t
    · subst e; simp [ha]
    · have e' : ¬ x.t = a := fun h => e h.symm
      simp [e, e']
  · refine congrArg (fun f => es.any f) (funext fun x => ?_)
    by_cases e : a = x.f
    · subst e; simp [ha]
    · have e' : ¬ x.f = a := fun h => e h.symm
      simp [e, e']
theorem MapB.made (w : World) : MapB (w.alloc (.map #[] 0)) w.heap.size (fun _ => false) := Mp.congr (Mp.made w) (fun _ => rfl)
theorem MapB.alloc {w : World} {b : Nat} {f : Int → Bool} (h : MapB w b f) (o : Obj) : MapB (w.alloc o) b f := Mp.alloc h o
theorem MapB.dr {w w' : World} {b : Nat} {f : Int → Bool} (h : MapB w b f) (hD : Dr w w') : MapB w' b f := by obtain ⟨k, rfl⟩ := hD; exact h
theorem MapB.store {w : World} {b : Nat} {f : Int → Bool} (h : MapB w b f) (a : Int) (ha : okI a) :
    ∃ w', (Instr.mapUpdate 84 (.map (some b)) (.int .i64 a) (.bool true)).run Try.prog w = .ok () w' ∧ MapB w' b (fun y => decide (y = a) || f y) ∧ w.grownBy w' (some b) := by
  obtain ⟨w', h1, h2, h3⟩ := Mp.store h keyI Try.underlying84 a ha true
  refine ⟨w', h1, Mp.congr h2 (fun y => ?_), h3.grown⟩
  unfold mset
  by_cases e : y = a <;> simp [e]
def slLen : Value → Nat | .slice _ n _ => n | _ => 0
theorem cell_at_kept {w w' : World} {p : Addr} {u : Value} {row : Option Nat} (hg : w.grownBy w' row) (hc : w.cell? p = some u) (hne : some p.block ≠ row) : w'.cell? p = some u :=
  (World.cell?_of_block (w := w) (a := p) (hg.block p.block (World.block_lt_of_cell? w _ hc) hne)).trans hc
/-- The essential part, its states and an error, in memory of the call's own. -/
def RetEs (G : Gr) (l : List Int) (k : Int) (w : World) (e : Ending) (w' : World) : Prop :=
  ∃ p m c q d, e = .returned (.tuple #[.agg #[.int .i64 G.q, .int .i64 G.n, .slice p m c], .slice q l.length d, .int .i64 k]) ∧ w'.ownsRow w.heap.size 47 3 (.slice p m c) G.es.length (cat G.es) ∧
    w'.ownsRow w.heap.size 3 1 (.slice q l.length d) l.length (l.map (Value.int .i64)) ∧ RowKit.Below w.heap.size w w'
theorem RetEs.of {x : Gr × List Int × Int} {G : Gr} {l : List Int} {k : Int} {w w' : World} {p : Option Addr} {m c : Nat} {v : Value} (hx : x = (G, l, k)) (h1 : w'.ownsRow w.heap.size 47 3 (.slice p m c) G.es.length (cat G.es))
    (h2 : w'.ownsRow w.heap.size 3 1 v l.length (l.map (Value.int .i64))) (hB : RowKit.Below w.heap.size w w') :
    RetEs x.1 x.2.1 x.2.2 w (.returned (.tuple #[.agg #[.int .i64 G.q, .int .i64 G.n, .slice p m c], v, .int .i64 k])) w' := by
  subst hx
  obtain ⟨q, d, rfl, _⟩ := own_sl h2
  exact ⟨p, m, c, q, d, rfl, h1, h2, hB⟩

set_option maxRecDepth 100000 in
set_option maxHeartbeats 4000000 in
theorem gEss_any (G : Gr) (p : Option Addr) (c : Nat) (w : World) (hin : Sg 3 w edE p G.es) (hl : G.es.length ≤ 10000) :
    Calls Try.prog 46 #[(.agg #[.int .i64 G.q, .int .i64 G.n, .slice p G.es.length c])] w (RetEs (essA G).1 (essA G).2.1 (essA G).2.2 w) := by
  have HIN := hidI hin
  clear hin
  obtain ⟨i0, hi0, hz0, hz1, hz3⟩ := info_parts infoIn
  obtain ⟨w0, hw0⟩ : ∃ w0, w0 = (w.alloc (.cells #[.int .i64 G.q, .int .i64 G.n, .slice p G.es.length c] 24)).alloc (.cells #[.int .i64 0, .int .i64 0, .slice none 0 0] 24) := ⟨_, rfl⟩
  have b0 : VRow w0 w.heap.size 24 [.int .i64 G.q, .int .i64 G.n, .slice p G.es.length c] := by subst hw0; exact (VRow.new w _ _).alloc _
  have b1 : VRow w0 (w.heap.size + 1) 24 [.int .i64 0, .int .i64 0, .slice none 0 0] := by subst hw0; exact VRow.new1 w _ _ _
  have hB0 : RowKit.Below w.heap.size w w0 := by subst hw0; exact ((RowKit.Below.refl _ _).alloc (Nat.le_refl _) _).alloc (by simp) _
  obtain ⟨r, hr⟩ : ∃ r, chkG G = r := ⟨_, rfl⟩
  by_cases hr0 : r = 0
  · subst hr0
    have HR := hidI hr
    have HV := hidI (chkG_ok.1 hr)
    obtain ⟨N, hNt⟩ : ∃ N : Nat, N = G.n.toNat := ⟨_, rfl⟩
    have HK : Hid (essA G = (partA G (ess G.es (upto N)), ess G.es (upto N), 0)) := by rw [hNt]; exact essA_ok hr
    clear hr
    go_enter Try.func46, Try.ntmps46
    go_wp2_with fail
    rw [← hw0]
    clear hw0
    refine (gCheck_r G p c _ 0 HR.out (HIN.out.below hB0) (by omega)).mono ?_
    rintro e w1 ⟨rfl, hB1⟩
    have x1 := hB0.trans (hB1.mono hB0.size)
    have c0 := b0.below hB1 b0.lt
    have c1 := b1.below hB1 b1.lt
    have f1 := c0.at 1 rfl
    clear hB1 b0 b1 hB0
    have hz : w.heap.size + 1 < w1.heap.size := c1.lt
    have hn0 := HV.out.n1; have hn1 := HV.out.n2
    have HN : Hid ((N : Int) = G.n) := by unfold Hid; omega
    have HU : Hid (St G.n (upto N)) := by rw [hNt]; exact St.upto hn0
    clear hNt
    go_wp2
    go_loopw [5, 22] (fun ov iv wr => ∃ k : Nat, k ≤ N ∧ iv = .int .i64 k ∧ wr.ownsRow w1.heap.size 3 1 ov k ((upto k).map (Value.int .i64)) ∧ RowKit.Below w1.heap.size w1 wr) (fun _ iv _ => N - (intOf iv).toNat)
    case atStart => exact ⟨0, by omega, rfl, World.ownsRow_nil _ _ _ _, RowKit.Below.refl _ _⟩
    case round =>
      obtain ⟨k, hk, rfl, hown, hB⟩ := hrel
      have hNN := HN.out
      by_cases hlt : (k : Int) < G.n
      · have hkN : k + 1 ≤ N := by omega
        clear hNN
        have hnew := cell_one_at wr (.int .i64 (k : Int)) 3 wr.heap.size rfl
        have HUS := hidI (upto_succ k)
        generalize upto k = M at *
        go_wp2_with (at_builtin; refine wpList_append_own _ rfl _ _ 50 rfl w1.heap.size 3 i0 (.int .i64 0) 1 8 Try.underlying50 hi0 hz0 hz1 hz3 rfl (by decide) _ _ _ rfl (hown.alloc _) ⟨wr.heap.size, 0, none⟩ 1 1 [.int .i64 (k : Int)] rfl rfl hnew (by simp [Value.oneCell']) (by simp [maxLen]; omega) (by omega) (by rw [World.size_alloc]; have := hB.size; omega) ?_; intro v' w2 hown' hgrow _)
        go_roundw
        case rel => exact ⟨k + 1, hkN, by go_num, by rw [HUS.out, List.map_append]; exact hown', (hB.alloc hB.size _).grown hgrow (Nat.le_trans hB.size (by simp)) (fun j e => (hown.lt j e).1)⟩
        case measure => simp [intOf]; omega
      · obtain rfl : N = k := by omega
        clear hNN
        obtain ⟨w2, rfl⟩ : ∃ w2 : World, w2 = wr := ⟨_, rfl⟩
        have x2 := x1.trans (hB.mono x1.size)
        have d0 := c0.below hB c0.lt
        have d1 := c1.below hB c1.lt
        have hge := hB.size
        have hmm := @run_makeMap Try.prog
        clear hB x1 c0 c1 f1
        go_wp2
        clear hlt
        go_loopw [5] (fun sv wr => ∃ st : List Int, Hid (St G.n st) ∧ Hid (ess G.es st = ess G.es (upto N)) ∧ wr.ownsRow w1.heap.size 3 1 sv st.length (st.map (Value.int .i64)) ∧ VRow wr w.heap.size 24 [.int .i64 G.q, .int .i64 G.n, .slice p G.es.length c] ∧ VRow wr (w.heap.size + 1) 24 [.int .i64 0, .int .i64 0, .slice none 0 0] ∧ RowKit.Below w.heap.size w wr ∧ w1.heap.size ≤ wr.heap.size) (fun sv _ => slLen sv)
        case atStart => exact ⟨upto N, HU, rfl, by rw [upto_len]; exact hown, d0, d1, x2, hge⟩
        case round =>
          obtain ⟨st, HST, HE, hown, e0, e1, hB, hge⟩ := hrel
          obtain ⟨ps, cs, rfl, _⟩ := own_sl hown
          obtain ⟨wo, rfl⟩ : ∃ wo : World, wo = wr := ⟨_, rfl⟩
          have hsl : st.length ≤ 64 := by have := HST.out.len hn0; omega
          obtain ⟨W0, hW0⟩ : ∃ W0, W0 = (((wo.alloc (.map #[] 0)).alloc (.map #[] 0)).alloc (.cells #[.map (some wo.heap.size)] 84)).alloc (.cells #[.map (some (wo.heap.size + 1))] 84) := ⟨_, rfl⟩
          have m1 : MapB W0 wo.heap.size (enE G.es st 0) := by subst hW0; exact (((MapB.made wo).alloc _).alloc _).alloc _
          have m2 : MapB W0 (wo.heap.size + 1) (lfE G.es st 0) := by
            subst hW0
            have := (((MapB.made (wo.alloc (.map #[] 0))).alloc (.cells #[.map (some wo.heap.size)] 84)).alloc (.cells #[.map (some (wo.heap.size + 1))] 84))
            rwa [World.size_alloc] at this
          have q1 : VRow W0 (wo.heap.size + 1 + 1) 84 [.map (some wo.heap.size)] := by
            subst hW0; exact (VRow.new2 wo _ _ _ _).alloc _
          have q2 : VRow W0 (wo.heap.size + 1 + 1 + 1) 84 [.map (some (wo.heap.size + 1))] := by
            subst hW0
            have h := VRow.new (((wo.alloc (.map #[] 0)).alloc (.map #[] 0)).alloc (.cells #[.map (some wo.heap.size)] 84)) 84 [.map (some (wo.heap.size + 1))]
            rwa [World.size_alloc, World.size_alloc, World.size_alloc] at h
          have hown0 : W0.ownsRow w1.heap.size 3 1 (.slice ps st.length cs) st.length (st.map (Value.int .i64)) := by subst hW0; exact (((hown.alloc _).alloc _).alloc _).alloc _
          have e00 : VRow W0 w.heap.size 24 [.int .i64 G.q, .int .i64 G.n, .slice p G.es.length c] := by subst hW0; exact (((e0.alloc _).alloc _).alloc _).alloc _
          have e10 : VRow W0 (w.heap.size + 1) 24 [.int .i64 0, .int .i64 0, .slice none 0 0] := by subst hW0; exact (((e1.alloc _).alloc _).alloc _).alloc _
          have hbs := hB.size
          have hB0 : RowKit.Below w.heap.size w W0 := by subst hW0; exact (((hB.alloc hbs _).alloc (by simp; omega) _).alloc (by simp; omega) _).alloc (by simp; omega) _
          have hz0 : wo.heap.size + 1 + 1 + 1 < W0.heap.size := q2.lt
          have nb : ∀ j, (Value.slice ps st.length cs).ownBlock = some j → j < wo.heap.size := fun j e => (hown.lt j e).2
          have f2 := e00.at 2 rfl
          rw [hW0] at f2
          go_wp2
          rw [← hW0]
          clear hW0 f2 e0 e1
          go_loopw [35] (fun jv wx => ∃ k : Nat, k ≤ G.es.length ∧ jv = .int .i64 k ∧ MapB wx wo.heap.size (enE G.es st k) ∧ MapB wx (wo.heap.size + 1) (lfE G.es st k) ∧ VRow wx (wo.heap.size + 1 + 1) 84 [.map (some wo.heap.size)] ∧ VRow wx (wo.heap.size + 1 + 1 + 1) 84 [.map (some (wo.heap.size + 1))] ∧
              wx.ownsRow w1.heap.size 3 1 (.slice ps st.length cs) st.length (st.map (Value.int .i64)) ∧ VRow wx w.heap.size 24 [.int .i64 G.q, .int .i64 G.n, .slice p G.es.length c] ∧ VRow wx (w.heap.size + 1) 24 [.int .i64 0, .int .i64 0, .slice none 0 0] ∧ RowKit.Below w.heap.size w wx ∧ w1.heap.size ≤ wx.heap.size) (fun jv _ => G.es.length - (intOf jv).toNat)
          case atStart => exact ⟨0, by omega, rfl, m1, m2, q1, q2, hown0, e00, e10, hB0, by omega⟩
          case round =>
            clear m1 m2 q1 q2 hown0 e00 e10 hB0 hz0
            obtain ⟨k, hk, rfl, m1, m2, q1, q2, hownx, e0, e1, hBx, hgx⟩ := hrel
            by_cases hlt : k < G.es.length
            · obtain ⟨b3, o3, rfl, hb3, z0, z1, z2⟩ := (HIN.out.below hBx).get3 k hlt rfl
              have HX := hidI (HV.out.ins G.es[k] (List.getElem_mem hlt))
              obtain ⟨ps', cs', hpe, hsl1⟩ := own_sl hownx
              cases hpe
              have hbz := hBx.size
              have HEN := hidI (enE_hit (st := st) hlt); have HLF := hidI (lfE_hit (st := st) hlt)
              have HEM := hidI (enE_miss (st := st) hlt); have HLM := hidI (lfE_miss (st := st) hlt)
              generalize G.es[k] = x at *
              obtain ⟨W1, hW1⟩ : ∃ W1, W1 = wr.alloc (.cells #[.int .i64 x.f, .int .i64 x.l, .int .i64 x.t] 47) := ⟨_, rfl⟩
              have y0 : VRow W1 wr.heap.size 47 [.int .i64 x.f, .int .i64 x.l, .int .i64 x.t] := by subst hW1; exact VRow.new wr _ _
              have hS1 : Sl W1 (Value.int .i64) ps st := by subst hW1; exact hsl1.below ((RowKit.Below.refl _ _).alloc (Nat.le_refl _) _)
              have n1 : MapB W1 wo.heap.size (enE G.es st k) := by subst hW1; exact m1.alloc _
              have n2 : MapB W1 (wo.heap.size + 1) (lfE G.es st k) := by subst hW1; exact m2.alloc _
              have r1 : VRow W1 (wo.heap.size + 1 + 1) 84 [.map (some wo.heap.size)] := by subst hW1; exact q1.alloc _
              have r2 : VRow W1 (wo.heap.size + 1 + 1 + 1) 84 [.map (some (wo.heap.size + 1))] := by subst hW1; exact q2.alloc _
              have hown1 : W1.ownsRow w1.heap.size 3 1 (.slice ps st.length cs) st.length (st.map (Value.int .i64)) := by subst hW1; exact hownx.alloc _
              have g0 : VRow W1 w.heap.size 24 [.int .i64 G.q, .int .i64 G.n, .slice (some ⟨b3, o3, none⟩) G.es.length c] := by subst hW1; exact e0.alloc _
              have g1 : VRow W1 (w.heap.size + 1) 24 [.int .i64 0, .int .i64 0, .slice none 0 0] := by subst hW1; exact e1.alloc _
              have hB1 : RowKit.Below w.heap.size w W1 := by subst hW1; exact hBx.alloc hbz _
              have hg1 : w1.heap.size ≤ W1.heap.size := by subst hW1; simp; omega
              have hwz : wo.heap.size + 1 + 1 + 1 < wr.heap.size := q2.lt
              go_wp2_with fail
              rw [← hW1]
              clear hW1 m1 m2 q1 q2 hownx e0 e1 hBx hgx hsl1 hbz
              have u0 := y0.at 0 rfl; have u2 := y0.at 2 rfl
              refine (binI_any st ps cs x.f W1 hS1 HST.out.srt (by omega)).mono ?_
              rintro e wa ⟨⟨i, rfl, _⟩, hDa⟩
              have hS2 := hS1.dr hDa
              have v2 := (y0.dr hDa).at 2 rfl
              clear u0 u2
              go_wp2_with fail
              refine (binI_any st ps cs x.t wa hS2 HST.out.srt (by omega)).mono ?_
              rintro e W2 ⟨⟨j, rfl, _⟩, hDb⟩
              have hD := hDa.trans hDb
              have y2 := y0.dr hD
              have n1' := n1.dr hD; have n2' := n2.dr hD
              have r1' := r1.dr hD; have r2' := r2.dr hD
              have hown2 := hown1.dr hD
              have g0' := g0.dr hD; have g1' := g1.dr hD
              have hB2 := hB1.trans (hD.below _)
              have hg2 : w1.heap.size ≤ W2.heap.size := by rw [hD.size]; exact hg1
              clear y0 hS1 hS2 n1 n2 r1 r2 hown1 g0 g1 hB1 hg1 v2 hDa hDb hD
              by_cases hm : x.f ∈ st ∧ x.t ∈ st
              · have m1 : decide (x.f ∈ st) = true := decide_eq_true hm.1
                have m2 : decide (x.t ∈ st) = true := decide_eq_true hm.2
                rw [m1, m2]
                have HEN := hidI (HEN.out hm); have HLF := hidI (HLF.out hm)
                clear HEM HLM m1 m2 hm
                have okt : okI x.t := okI_of (by have := HX.out; omega) (by have := HX.out; omega)
                have okf : okI x.f := okI_of (by have := HX.out; omega) (by have := HX.out; omega)
                have n1d : MapB W2.drew wo.heap.size (enE G.es st k) := n1'
                have n2d : MapB W2.drew (wo.heap.size + 1) (lfE G.es st k) := n2'
                have y2d : VRow W2.drew wr.heap.size 47 [.int .i64 x.f, .int .i64 x.l, .int .i64 x.t] := y2
                have r1d : VRow W2.drew (wo.heap.size + 1 + 1) 84 [.map (some wo.heap.size)] := r1'
                have r2d : VRow W2.drew (wo.heap.size + 1 + 1 + 1) 84 [.map (some (wo.heap.size + 1))] := r2'
                have hownd : W2.drew.ownsRow w1.heap.size 3 1 (.slice ps st.length cs) st.length (st.map (Value.int .i64)) := hown2
                have g0d : VRow W2.drew w.heap.size 24 [.int .i64 G.q, .int .i64 G.n, .slice (some ⟨b3, o3, none⟩) G.es.length c] := g0'
                have g1d : VRow W2.drew (w.heap.size + 1) 24 [.int .i64 0, .int .i64 0, .slice none 0 0] := g1'
                have hBd : RowKit.Below w.heap.size w W2.drew := hB2.drew
                have hgd : w1.heap.size ≤ W2.drew.heap.size := hg2
                have hwb := hB.size
                clear n1' n2' y2 r1' r2' hown2 g0' g1' hB2 hg2
                go_wp2_with fail
                obtain ⟨U1, hr1, M1, G1⟩ := n1d.store x.t okt
                have n2u := n2d.kept G1 (fun e => by have := Option.some.inj e; omega)
                obtain ⟨U2, hr2, M2, G2⟩ := n2u.store x.f okf
                have M1' := M1.kept G2 (fun e => by have := Option.some.inj e; omega)
                have a0 := y2d.at 0 rfl; have a2 := y2d.at 2 rfl
                have a7 := r1d.at 0 rfl; have a8 := r2d.at 0 rfl
                have yu := y2d.grown G1 (fun e => by have := Option.some.inj e; omega)
                have ru1 := r1d.grown G1 (fun e => by have := Option.some.inj e; omega)
                have ru2 := r2d.grown G1 (fun e => by have := Option.some.inj e; omega)
                have d0 := yu.at 0 rfl; have d8 := ru2.at 0 rfl
                have rr1 := ru1.grown G2 (fun e => by have := Option.some.inj e; omega)
                have rr2 := ru2.grown G2 (fun e => by have := Option.some.inj e; omega)
                have hownu := (hownd.kept G1 (.inr (fun e => by have := nb _ e; omega))).kept G2 (.inr (fun e => by have := nb _ e; omega))
                have g0u := (g0d.grown G1 (fun e => by have := Option.some.inj e; omega)).grown G2 (fun e => by have := Option.some.inj e; omega)
                have g1u := (g1d.grown G1 (fun e => by have := Option.some.inj e; omega)).grown G2 (fun e => by have := Option.some.inj e; omega)
                have hBu := (hBd.grown G1 hBd.size (fun j e => by have := Option.some.inj e; omega)).grown G2 (Nat.le_trans hBd.size G1.size) (fun j e => by have := Option.some.inj e; omega)
                have hgu := Nat.le_trans (Nat.le_trans hgd G1.size) G2.size
                clear n1d n2d y2d r1d r2d hownd g0d g1d hBd hgd n2u yu ru1 ru2 M1 G1 G2
                go_region
                all_goals
                  go_wp2
                  go_roundw
                  case rel => exact ⟨k + 1, by omega, by go_num, M1'.congr (fun a => (HEN.out a).symm), M2.congr (fun a => (HLF.out a).symm), rr1, rr2, hownu, g0u, g1u, hBu, hgu⟩
                  case measure => simp [intOf]; omega
              · have HEM := hidI (HEM.out hm); have HLM := hidI (HLM.out hm)
                have hor : decide (x.f ∈ st) = false ∨ (decide (x.f ∈ st) = true ∧ decide (x.t ∈ st) = false) := by
                  by_cases h1 : x.f ∈ st
                  · exact .inr ⟨decide_eq_true h1, decide_eq_false (fun h2 => hm ⟨h1, h2⟩)⟩
                  · exact .inl (decide_eq_false h1)
                clear HEN HLF hm
                generalize decide (x.f ∈ st) = b1 at *
                generalize decide (x.t ∈ st) = b2 at *
                rcases hor with rfl | ⟨rfl, rfl⟩
                all_goals
                  go_wp2_with fail
                  go_roundw
                  case rel => exact ⟨k + 1, by omega, by go_num, n1'.congr (fun a => (HEM.out a).symm), n2'.congr (fun a => (HLM.out a).symm), r1', r2', hown2, g0', g1', hB2, hg2⟩
                  case measure => simp [intOf]; omega
            · obtain rfl : k = G.es.length := by omega
              obtain ⟨ps', cs', hpe, hsl1⟩ := own_sl hownx
              cases hpe
              have HSS := hidI (essS_maps G.es st)
              have k1 := q1.at 0 rfl; have k2 := q2.at 0 rfl
              have hwz : wo.heap.size + 1 + 1 + 1 < wr.heap.size := q2.lt
              have c1 : (Value.slice ps st.length cs).ownBlock ≠ some (wo.heap.size + 1 + 1) := fun e => by have := nb _ e; omega
              have c2 : (Value.slice ps st.length cs).ownBlock ≠ some (wo.heap.size + 1 + 1 + 1) := fun e => by have := nb _ e; omega
              have hdel := gDel_any (enE G.es st G.es.length) (lfE G.es st G.es.length) st w1.heap.size st.length (wo.heap.size + 1 + 1) (wo.heap.size + 1 + 1 + 1) wo.heap.size (wo.heap.size + 1) (.slice ps st.length cs) wr hownx (by omega) (fun x hx => by have := HST.out.ins x hx; omega) k1 k2 m1 m2 c1 c2
              rw [HSS.out] at hdel
              have HDEL := hidI hdel
              clear hdel k1 k2
              go_wp2_with (go_at_call 63; refine HDEL.out.mono ?_)
              rintro e w3 ⟨v3, rfl, hown3, G3, _⟩
              have hne : ∀ j, (Value.slice ps st.length cs).ownBlock = some j → w1.heap.size ≤ j := fun j e => (hownx.lt j e).1
              have e03 := e0.grown G3 (fun e => by have := hne _ e.symm; omega)
              have e13 := e1.grown G3 (fun e => by have := hne _ e.symm; omega)
              have hB3 := hBx.grown G3 hBx.size (fun j e => by have := hne _ e; omega)
              have hg3 := Nat.le_trans hgx G3.size
              clear m1 m2 q1 q2 hownx e0 e1 hBx hgx hsl1 hne nb c1 c2 G3 HDEL HSS
              by_cases he : (essS G.es st).length = st.length
              · have hE := essS_eq he
                have HKK : Hid (essA G = (partA G st, st, 0)) := by
                  have := HE.out
                  rw [ess_stop he] at this
                  rw [Hid, HK.out, ← this]
                rw [hE] at hown3
                clear hE he
                obtain ⟨p3, c3, rfl, hs3⟩ := own_sl hown3
                have f0 := e03.at 0 rfl; have f1 := e03.at 1 rfl; have f2 := e03.at 2 rfl
                have hst3 := HST.out.srt
                clear HE
                go_wp2_with fail
                refine (gkeep_any G p c st p3 c3 w3 (HIN.out.below hB3) hs3 hl (by omega) hst3).mono ?_
                generalize partA G st = R at *
                rintro e w4 ⟨p4, m4, c4, rfl, hown4, hB4⟩
                have x4 := hB3.trans (hB4.mono hB3.size)
                have e14 := e13.below hB4 e13.lt
                have hz3 : w.heap.size + 1 < w3.heap.size := e13.lt
                have hown5 := hown3.below hB4
                clear f0 f1 f2
                have j0 := e14.at 0 rfl; have j1 := e14.at 1 rfl; have j2 := e14.at 2 rfl
                have z0 := e14.frozen 0; have z1 := e14.frozen 1; have z2 := e14.frozen 2
                go_wp2
                have r6 := VRow.set (i := 2) (.slice p4 m4 c4) (VRow.set (i := 1) (.int .i64 R.n) (VRow.set (i := 0) (.int .i64 R.q) e14))
                have y0 := r6.at 0 rfl; have y1 := r6.at 1 rfl; have y2 := r6.at 2 rfl
                have o6 := ownsRow_setCell_below (a := (⟨w.heap.size + 1, 2, none⟩ : Addr)) (ownsRow_setCell_below (a := (⟨w.heap.size + 1, 1, none⟩ : Addr)) (ownsRow_setCell_below (a := (⟨w.heap.size + 1, 0, none⟩ : Addr)) hown4 hz3 (.int .i64 R.q)) hz3 (.int .i64 R.n)) hz3 (.slice p4 m4 c4)
                have o7 := ownsRow_setCell_below (a := (⟨w.heap.size + 1, 2, none⟩ : Addr)) (ownsRow_setCell_below (a := (⟨w.heap.size + 1, 1, none⟩ : Addr)) (ownsRow_setCell_below (a := (⟨w.heap.size + 1, 0, none⟩ : Addr)) hown5 hz (.int .i64 R.q)) hz (.int .i64 R.n)) hz (.slice p4 m4 c4)
                have x6 : RowKit.Below w.heap.size w (((w4.setCell (⟨w.heap.size + 1, 0, none⟩ : Addr) (.int .i64 R.q)).setCell (⟨w.heap.size + 1, 1, none⟩ : Addr) (.int .i64 R.n)).setCell (⟨w.heap.size + 1, 2, none⟩ : Addr) (.slice p4 m4 c4)) :=
                  ((x4.setCell (show w.heap.size ≤ w.heap.size + 1 by omega) _).setCell (show w.heap.size ≤ w.heap.size + 1 by omega) _).setCell (show w.heap.size ≤ w.heap.size + 1 by omega) _
                refine bodyPost_ret (v := .tuple #[.agg #[.int .i64 R.q, .int .i64 R.n, .slice p4 m4 c4], .slice p3 st.length c3, .int .i64 0]) (by simp [results, Try.results46, go_sem, y0, y1, y2]) rfl ?_
                exact RetEs.of HKK.out (own_conv o6 rfl (by omega)) ⟨o7.1, o7.2.imp id (fun ⟨g, cap, cur, a, b, z⟩ => ⟨g, cap, cur, a, Nat.le_trans (show w.heap.size ≤ w1.heap.size by omega) b, z⟩)⟩ x6
              · have HEG : Hid (ess G.es (essS G.es st) = ess G.es (upto N)) := by rw [Hid, ← ess_go he]; exact HE.out
                have HSF : Hid (St G.n (essS G.es st)) := HST.out.filter _
                have hle := essS_le G.es st
                clear HE
                generalize essS G.es st = S at *
                obtain ⟨p3, c3, rfl, hs3⟩ := own_sl hown3
                have hb : ((S.length : Int) == (st.length : Int)) = false := by rw [beq_eq_false_iff_ne]; omega
                go_wp2
                go_roundw
                case rel => exact ⟨S, HSF, HEG, hown3, e03, e13, hB3, hg3⟩
                case measure => simp [slLen]; omega
  · have HK : Hid (essA G = (⟨0, 0, []⟩, [], 1)) := essA_bad (by rw [hr]; exact hr0)
    have hrb : (r == 0) = false := by simpa using hr0
    have HR := hidI hr
    clear hr
    go_enter Try.func46, Try.ntmps46
    go_wp2_with fail
    rw [← hw0]
    clear hw0
    refine (gCheck_r G p c _ r HR.out (HIN.out.below hB0) (by omega)).mono ?_
    rintro e w1 ⟨rfl, hB1⟩
    have x1 := hB0.trans (hB1.mono hB0.size)
    have c1 := b1.below hB1 b1.lt
    have j0 := c1.at 0 rfl; have j1 := c1.at 1 rfl; have j2 := c1.at 2 rfl
    have z0 := c1.frozen 0; have z1 := c1.frozen 1; have z2 := c1.frozen 2
    go_wp2
    have r6 := VRow.set (i := 2) (.slice none 0 0) (VRow.set (i := 1) (.int .i64 0) (VRow.set (i := 0) (.int .i64 0) c1))
    have y0 := r6.at 0 rfl; have y1 := r6.at 1 rfl; have y2 := r6.at 2 rfl
    have x6 : RowKit.Below w.heap.size w (((w1.setCell (⟨w.heap.size + 1, 0, none⟩ : Addr) (.int .i64 0)).setCell (⟨w.heap.size + 1, 1, none⟩ : Addr) (.int .i64 0)).setCell (⟨w.heap.size + 1, 2, none⟩ : Addr) (.slice none 0 0)) :=
      ((x1.setCell (show w.heap.size ≤ w.heap.size + 1 by omega) _).setCell (show w.heap.size ≤ w.heap.size + 1 by omega) _).setCell (show w.heap.size ≤ w.heap.size + 1 by omega) _
    refine bodyPost_ret (v := .tuple #[.agg #[.int .i64 0, .int .i64 0, .slice none 0 0], .slice none 0 0, .int .i64 1]) (by simp [results, Try.results46, go_sem, y0, y1, y2]) rfl ?_
    exact RetEs.of (G := ⟨0, 0, []⟩) (l := []) HK.out (World.ownsRow_nil _ _ _ _) (World.ownsRow_nil _ _ _ _) x6
end Go.Proofs.Ytlgjhmenjfmpfaa
