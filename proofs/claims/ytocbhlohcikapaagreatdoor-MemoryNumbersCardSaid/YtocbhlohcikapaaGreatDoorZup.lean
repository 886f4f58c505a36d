/-
  MemoryNumbers: whatever comes in, the law returns true, and its arguments read as they did; the tables of the library that its row lists are tied to the program's text.
-/
import Derived.Test.YtocbhlohcikapaaGreatDoorZuo
import Derived.Test.YtocbhlohcikapaaGreatDoorZuk
import Derived.Test.YtocbhlohcikapaaGreatDoorZub
import Derived.Test.YtocbhlohcikapaaGreatDoorZue
import Derived.Test.YtocbhlohcikapaaGreatDoorZun
import Derived.Test.YtocbhlohcikapaaGreatDoorZum
import Derived.Test.YtocbhlohcikapaaGreatDoorTie
import Derived.Test.YtocbhlohcikapaaGreatDoorCards
import Derived.LaidMore
import Derived.SevenTiedAt
import Derived.Carry
set_option linter.unusedVariables false
set_option linter.unusedSimpArgs false
namespace Go.Proofs.YtocbhlohcikapaaGreatDoor
section
open Go.RowKit Go.Sort Go.Shelf Go.Lib
abbrev SbT := Option Addr × Nat × (Option Addr × Nat × Nat)
def tupB (R : Gr × List (List Int) × Int) (t : SbT) : Value := .tuple #[(.agg #[.int .i64 R.1.q, .int .i64 R.1.n, .slice t.1 R.1.es.length t.2.1]), .slice t.2.2.1 t.2.2.2.1 t.2.2.2.2, .int .i64 R.2.2]
theorem tupB_inj {R : Gr × List (List Int) × Int} {t u : SbT} (h : tupB R t = tupB R u) : t = u := by
 obtain ⟨a, b, c, d, e⟩ := t
 obtain ⟨a', b', c', d', e'⟩ := u
 unfold tupB at h
 simp at h
 simp [h]
structure KpB (w : World) (G : Gr) (p : Option Addr) (c : Nat) (U : List Int) (R : Gr × List (List Int) × Int) (d7 : Bool) (f17 f18 f19 f20 f21 f3 f4 : Option Value) (W : World) : Prop where
 b : RowKit.Below w.heap.size w W
 g : VRow W w.heap.size 24 [.int .i64 G.q, .int .i64 G.n, .slice p G.es.length c]
 s : ∀ v, f17 = some v → ∃ q d, v = .slice q U.length d ∧ SlJ W q U
 k : ∀ v, f18 = some v → ∃ t, v = tupB R t ∧ (W.ownsRow w.heap.size 44 3 (.slice t.1 R.1.es.length t.2.1) R.1.es.length (cat R.1.es))
 x : ∀ v, f19 = some v → ∃ t, f18 = some (tupB R t) ∧ v = (.agg #[.int .i64 R.1.q, .int .i64 R.1.n, .slice t.1 R.1.es.length t.2.1])
 y : ∀ v, f20 = some v → ∃ t, f18 = some (tupB R t) ∧ v = .slice t.2.2.1 t.2.2.2.1 t.2.2.2.2
 z : ∀ v, f21 = some v → v = .int .i64 R.2.2
 r0 : d7 = false → VRow W (w.heap.size + 1) 24 [.int .i64 0, .int .i64 0, .slice none 0 0]
 r1 : d7 = true → ∃ t, f18 = some (tupB R t) ∧ VRow W (w.heap.size + 1) 24 [.int .i64 R.1.q, .int .i64 R.1.n, .slice t.1 R.1.es.length t.2.1]
 a3 : ∀ v, f3 = some v → f20 = some v
 a4 : ∀ v, f4 = some v → f21 = some v
section
variable {w : World} {G : Gr} {p : Option Addr} {c : Nat} {U : List Int} {R : Gr × List (List Int) × Int} {d7 : Bool} {f17 f18 f19 f20 f21 f3 f4 : Option Value} {W W' : World} {t : SbT}
theorem KpB.below (h : KpB w G p c U R d7 f17 f18 f19 f20 f21 f3 f4 W) (hB : RowKit.Below W.heap.size W W') : KpB w G p c U R d7 f17 f18 f19 f20 f21 f3 f4 W' where
 b := h.b.trans (hB.mono h.b.size)
 g := h.g.below hB h.g.lt
 s := fun v hv => by obtain ⟨q, d, e, hs⟩ := h.s v hv; exact ⟨q, d, e, (KCs.below hB).slj hs⟩
 k := fun v hv => by obtain ⟨t, e, ho⟩ := h.k v hv; exact ⟨t, e, ho.below hB⟩
 x := h.x
 y := h.y
 z := h.z
 r0 := fun e => (h.r0 e).below hB (h.r0 e).lt
 r1 := fun e => by obtain ⟨t, h1, h2⟩ := h.r1 e; exact ⟨t, h1, h2.below hB h2.lt⟩
 a3 := h.a3
 a4 := h.a4
theorem KpB.states {v : Value} {q : Option Addr} {d : Nat} (h : KpB w G p c U R d7 none f18 f19 f20 f21 f3 f4 W) (hv : v = .slice q U.length d) (hs : SlJ W q U) : KpB w G p c U R d7 (some v) f18 f19 f20 f21 f3 f4 W :=
 { h with s := fun u hu => ⟨q, d, by cases hu; exact hv, hs⟩ }
theorem KpB.from_ {v : Value} (h : KpB w G p c U R false f17 none none none f21 f3 f4 W) (hv : v = tupB R t) (ho : (W.ownsRow w.heap.size 44 3 (.slice t.1 R.1.es.length t.2.1) R.1.es.length (cat R.1.es))) : KpB w G p c U R false f17 (some v) none none f21 f3 f4 W :=
 { h with k := fun u hu => ⟨t, by cases hu; exact hv, ho⟩, x := (fun _ e => by cases e), y := (fun _ e => by cases e), r1 := (fun e => by cases e) }
theorem KpB.e0 (h : KpB w G p c U R d7 f17 (some (tupB R t)) f19 f20 f21 f3 f4 W) : KpB w G p c U R d7 f17 (some (tupB R t)) (some (.agg #[.int .i64 R.1.q, .int .i64 R.1.n, .slice t.1 R.1.es.length t.2.1])) f20 f21 f3 f4 W :=
 { h with x := fun u hu => ⟨t, rfl, by cases hu; rfl⟩ }
theorem KpB.e1 (h : KpB w G p c U R d7 f17 (some (tupB R t)) f19 f20 f21 none f4 W) : KpB w G p c U R d7 f17 (some (tupB R t)) f19 (some (.slice t.2.2.1 t.2.2.2.1 t.2.2.2.2)) f21 none f4 W :=
 { h with y := fun u hu => ⟨t, rfl, by cases hu; rfl⟩, a3 := (fun _ e => by cases e) }
theorem KpB.e2 (h : KpB w G p c U R d7 f17 f18 f19 f20 f21 f3 none W) : KpB w G p c U R d7 f17 f18 f19 f20 (some (.int .i64 R.2.2)) f3 none W :=
 { h with z := fun u hu => by cases hu; rfl, a4 := (fun _ e => by cases e) }
theorem KpB.s3 {v : Value} (h : KpB w G p c U R d7 f17 f18 f19 (some v) f21 f3 f4 W) : KpB w G p c U R d7 f17 f18 f19 (some v) f21 (some v) f4 W := { h with a3 := fun u hu => hu }
theorem KpB.s4 {v : Value} (h : KpB w G p c U R d7 f17 f18 f19 f20 (some v) f3 f4 W) : KpB w G p c U R d7 f17 f18 f19 f20 (some v) f3 (some v) W := { h with a4 := fun u hu => hu }
theorem KpB.store (h : KpB w G p c U R false f17 (some (tupB R t)) f19 f20 f21 f3 f4 W) :
  KpB w G p c U R true f17 (some (tupB R t)) f19 f20 f21 f3 f4 (((W.setCell ⟨w.heap.size + 1, 0, none⟩ (.int .i64 R.1.q)).setCell ⟨w.heap.size + 1, 1, none⟩ (.int .i64 R.1.n)).setCell ⟨w.heap.size + 1, 2, none⟩ (.slice t.1 R.1.es.length t.2.1)) := by
 have r0 := h.r0 rfl
 have q1 := VRow.set (i := 0) (.int .i64 R.1.q) r0
 have q2 := VRow.set (i := 1) (.int .i64 R.1.n) q1
 have q3 := VRow.set (i := 2) (.slice t.1 R.1.es.length t.2.1) q2
 have k1 := KpT.set (j := 0) (v := .int .i64 R.1.q) r0
 have k2 := KpT.set (j := 1) (v := .int .i64 R.1.n) q1
 have k3 := KpT.set (j := 2) (v := .slice t.1 R.1.es.length t.2.1) q2
 exact { h with
  b := ((h.b.setCell (p := ⟨w.heap.size + 1, 0, none⟩) (by simp) _).setCell (p := ⟨w.heap.size + 1, 1, none⟩) (by simp) _).setCell (p := ⟨w.heap.size + 1, 2, none⟩) (by simp) _
  g := ((h.g.other _ (by omega)).other _ (by omega)).other _ (by omega)
  s := fun v hv => by
   obtain ⟨q, d, e, hs⟩ := h.s v hv
   exact ⟨q, d, e, k3.slj (by decide) (k2.slj (by decide) (k1.slj (by decide) hs))⟩
  k := fun v hv => by
   obtain ⟨u, e, ho⟩ := h.k v hv
   exact ⟨u, e, k3.own (by decide) (k2.own (by decide) (k1.own (by decide) ho))⟩
  r0 := (fun e => by cases e)
  r1 := fun _ => ⟨t, rfl, q3⟩ }
end
set_option maxRecDepth 100000 in
set_option maxHeartbeats 2000000 in
theorem r12Build_any (G : Gr) (p : Option Addr) (c : Nat) (w : World) (hin : Sg 3 w edE p G.es) (hl : G.es.length ≤ 9223372036854775807) :
  Calls Tryz.prog 61 #[(.agg #[.int .i64 G.q, .int .i64 G.n, .slice p G.es.length c])] w (RetSb (sbA G) w) := by
 obtain ⟨w0, hw0⟩ : ∃ w0, w0 = (w.alloc (.cells #[.int .i64 G.q, .int .i64 G.n, .slice p G.es.length c] 24)).alloc (.cells #[.int .i64 0, .int .i64 0, .slice none 0 0] 24) := ⟨_, rfl⟩
 have b0 : VRow w0 w.heap.size 24 [.int .i64 G.q, .int .i64 G.n, .slice p G.es.length c] := by subst hw0; exact (VRow.new w _ _).alloc _
 have b1 : VRow w0 (w.heap.size + 1) 24 [.int .i64 0, .int .i64 0, .slice none 0 0] := by subst hw0; exact VRow.new1 w _ _ _
 have hB0 : RowKit.Below w.heap.size w w0 := by subst hw0; exact ((RowKit.Below.refl _ _).alloc (Nat.le_refl _) _).alloc (by simp) _
 obtain ⟨r, hr⟩ : ∃ r, chkG G = r := ⟨_, rfl⟩
 have HCK := hidI (rCheck_r G p c w0 r hr (hin.below hB0) hl)
 have f0 := b0.at 0 rfl; have f1 := b0.at 1 rfl; have f2 := b0.at 2 rfl
 by_cases hr0 : r = 0
 ·subst hr0
  have hv := chkG_ok.1 hr
  by_cases hn0 : G.n = 0
  ·have HK : Hid (sbA G = (⟨G.q, 0, []⟩, [], 0)) := by unfold Hid sbA; rw [if_pos hr, if_pos hn0]
   have hnb : (G.n == 0) = true := by simpa using hn0
   clear hr hin hv hn0
   go_enter Tryz.func61, Tryz.ntmps61
   go_upto_region 1 with fail
   rw [← hw0]
   clear hw0
   go_wp2_with fail
   refine HCK.out.mono ?_
   rintro e w1 ⟨rfl, hB1⟩
   have x1 := hB0.trans (hB1.mono hB0.size)
   have g1 := b1.below hB1 b1.lt
   have g0 := b0.below hB1 b0.lt
   clear f0 f1 f2
   have f0 := g0.at 0 rfl; have f1 := g0.at 1 rfl
   have j0 := g1.at 0 rfl; have j1 := g1.at 1 rfl; have j2 := g1.at 2 rfl
   have z0 := g1.frozen 0; have z1 := g1.frozen 1; have z2 := g1.frozen 2
   have r6 := VRow.set (i := 2) (.slice none 0 0) (VRow.set (i := 1) (.int .i64 0) (VRow.set (i := 0) (.int .i64 G.q) g1))
   have y0 := r6.at 0 rfl; have y1 := r6.at 1 rfl; have y2 := r6.at 2 rfl
   have x6 := ((x1.setCell (show w.heap.size ≤ w.heap.size + 1 by omega) (.int .i64 G.q) (p := ⟨w.heap.size + 1, 0, none⟩)).setCell (show w.heap.size ≤ w.heap.size + 1 by omega) (.int .i64 0) (p := ⟨w.heap.size + 1, 1, none⟩)).setCell (show w.heap.size ≤ w.heap.size + 1 by omega) (.slice none 0 0) (p := ⟨w.heap.size + 1, 2, none⟩)
   clear g1 g0 r6 b0 b1
   go_wp2
   refine bodyPost_ret (v := .tuple #[.agg #[.int .i64 G.q, .int .i64 0, .slice none 0 0], .slice none 0 0, .int .i64 0]) (by simp [results, Tryz.results61, go_sem, y0, y1, y2]) rfl ?_
   rw [HK.out]
   exact RetSb.of (G := ⟨G.q, 0, []⟩) (S := []) rfl rfl (World.ownsRow_nil _ _ _ _) x6
  ·have hnb : (G.n == 0) = false := by simpa using hn0
   obtain ⟨N, hN⟩ : ∃ N : Nat, G.n = N := ⟨G.n.toNat, by have := hv.n1; omega⟩
   have hNT : G.n.toNat = N := by omega
   have HK : Hid (sbA G = sbR G (sbGo G 66 0 ([upto N], []))) := by rw [Hid, sbA_ok1 hr hn0, hNT]
   have HSS := hidI (fun W => r12states_any G p c W hv)
   rw [hNT] at HSS
   have HFR := hidI (fun q d W (hB : RowKit.Below w.heap.size w W) (hs : SlJ W q (upto N)) => r12From_any G p c N q d W (hin.below hB) hs hv hN (by omega))
   generalize sbR G (sbGo G 66 0 ([upto N], [])) = R at *
   generalize upto N = U at *
   clear hr hin hv hn0 hN hNT
   go_enter Tryz.func61, Tryz.ntmps61
   go_upto_region 1 with fail
   rw [← hw0]
   clear hw0
   go_wp2_with fail
   refine HCK.out.mono ?_
   rintro e w1 ⟨rfl, hB1⟩
   have x1 := hB0.trans (hB1.mono hB0.size)
   have g1 := b1.below hB1 b1.lt
   have g0 := b0.below hB1 b0.lt
   clear f0 f1 f2 b0 b1 hB1 HCK
   have f1 := g0.at 1 rfl
   go_upto_region 5 with fail
   clear f1
   refine region_detW (by kernel_rfl) 10 [(some 15, some (.agg #[.int .i64 G.q, .int .i64 G.n, .slice p G.es.length c])), (some 16, some (.agg #[.int .i64 G.q, .int .i64 G.n, .slice p G.es.length c])), (some 17, none), (some 18, none), (some 19, none), (some 20, none), (some 21, none), (none, none), (some 3, none), (some 4, none)]
    (fun d f W => KpB w G p c U R (d 7) (f 17) (f 18) (f 19) (f 20) (f 21) (f 3) (f 4) W) (by kernel_rfl) (by kernel_rfl) (by kernel_rfl) (by kernel_rfl)
    ⟨below_dN x1 1, g0, (fun _ e => by cases e), (fun _ e => by cases e), (fun _ e => by cases e), (fun _ e => by cases e), (fun _ e => by cases e), fun _ => g1, (fun e => by cases e), (fun _ e => by cases e), (fun _ e => by cases e)⟩ ?_ ?_
   focus
    intro i o ho a d f W hS hdi hdn hnd hdep hout hold K hK
    have hil : i < 10 := (Array.getElem?_eq_some_iff.1 ho).1
    have hcases : i = 0 ∨ i = 1 ∨ i = 2 ∨ i = 3 ∨ i = 4 ∨ i = 5 ∨ i = 6 ∨ i = 7 ∨ i = 8 ∨ i = 9 := by omega
    clear hil
    have u1 := hout 1 (by kernel_rfl)
    have u2 := hout 2 (by kernel_rfl)
    simp at u1 u2
    clear hout
    have f0 := hS.g.at 0 rfl; have f1 := hS.g.at 1 rfl; have f2 := hS.g.at 2 rfl
    rcases hcases with rfl | rfl | rfl | rfl | rfl | rfl | rfl | rfl | rfl | rfl
    all_goals (simp only [List.getElem?_toArray, List.getElem?_cons_succ, List.getElem?_cons_zero, Option.some.injEq] at ho; subst ho; simp [Region.binds] at hdep; (try go_split_ands))
    ·go_simp; exact hK _ _ (fun u hu => Option.some.inj hu) hS
    ·go_simp; exact hK _ _ (fun u hu => Option.some.inj hu) hS
    ·have h17 := (hold 2 (by kernel_rfl) _ rfl 17 rfl).1
     have h18 := (hold 3 (by kernel_rfl) _ rfl 18 rfl).1
     go_simp
     refine (HSS.out W).mono ?_
     rintro e wk ⟨q, dd, rfl, hsl, hBk⟩
     have h := hS.below hBk
     rw [h17] at h
     have hfin := h.states (v := .slice q U.length dd) rfl hsl
     exact hK _ _ (fun u hu => by cases hu) hfin
    ·obtain ⟨v, hv, hat⟩ : ∃ v, f 17 = some v ∧ a.tmps[17]? = some v := by assumption
     obtain ⟨q, dd, rfl, hsl⟩ := hS.s v hv
     have h18 := (hold 3 (by kernel_rfl) _ rfl 18 rfl).1
     have h19 := (hold 4 (by kernel_rfl) _ rfl 19 rfl).1
     have h20 := (hold 5 (by kernel_rfl) _ rfl 20 rfl).1
     have e7 := hnd 7 (by kernel_rfl)
     have HV1 := hidI hv
     clear hv
     go_simp
     refine (HFR.out q dd W hS.b hsl).mono ?_
     rintro e wk ⟨p1, c1, ps, ms, cs, rfl, hown, hBk⟩
     have h := hS.below hBk
     rw [e7, h18, h19, h20] at h
     have hfin := h.from_ (t := (p1, c1, ps, ms, cs)) rfl (own_downN hown hS.b.size)
     exact hK _ _ (fun u hu => by cases hu) (by
      show KpB _ _ _ _ _ _ (d 7) (f 17) (some _) (f 19) (f 20) (f 21) (f 3) (f 4) wk
      rw [e7, h19, h20]; exact hfin)
    ·obtain ⟨v, hv, hat⟩ : ∃ v, f 18 = some v ∧ a.tmps[18]? = some v := by assumption
     obtain ⟨t, rfl, _⟩ := hS.k v hv
     have h := hS
     rw [hv] at h
     have hfin := h.e0
     unfold tupB at hat
     have HV1 := hidI hv
     clear hv
     go_simp
     exact hK _ _ (fun u hu => by cases hu) (by
      show KpB _ _ _ _ _ _ (d 7) (f 17) (f 18) (some _) (f 20) (f 21) (f 3) (f 4) W
      rw [HV1.out]; exact hfin)
    ·obtain ⟨v, hv, hat⟩ : ∃ v, f 18 = some v ∧ a.tmps[18]? = some v := by assumption
     obtain ⟨t, rfl, _⟩ := hS.k v hv
     have h3 := (hold 8 (by kernel_rfl) _ rfl 3 rfl).1
     have h := hS
     rw [hv, h3] at h
     have hfin := h.e1
     unfold tupB at hat
     have HV1 := hidI hv
     clear hv
     go_simp
     exact hK _ _ (fun u hu => by cases hu) (by
      show KpB _ _ _ _ _ _ (d 7) (f 17) (f 18) (f 19) (some _) (f 21) (f 3) (f 4) W
      rw [HV1.out, h3]; exact hfin)
    ·obtain ⟨v, hv, hat⟩ : ∃ v, f 18 = some v ∧ a.tmps[18]? = some v := by assumption
     obtain ⟨t, rfl, _⟩ := hS.k v hv
     have h4 := (hold 9 (by kernel_rfl) _ rfl 4 rfl).1
     have h := hS
     rw [h4] at h
     have hfin := h.e2
     unfold tupB at hat
     have HV1 := hidI hv
     clear hv
     go_simp
     exact hK _ _ (fun u hu => by cases hu) (by
      show KpB _ _ _ _ _ _ (d 7) (f 17) (f 18) (f 19) (f 20) (some _) (f 3) (f 4) W
      rw [h4]; exact hfin)
    ·obtain ⟨v, hv, hat⟩ : ∃ v, f 19 = some v ∧ a.tmps[19]? = some v := by assumption
     obtain ⟨t, h18, rfl⟩ := hS.x v hv
     have e7 : d 7 = false := hdi
     have h := hS
     rw [e7, h18] at h
     have hzr := h.r0 rfl
     have k0 := hzr.at 0 rfl; have k1 := hzr.at 1 rfl; have k2 := hzr.at 2 rfl
     have z0 := hzr.frozen 0; have z1 := hzr.frozen 1; have z2 := hzr.frozen 2
     have hfin := h.store
     have HV1 := hidI h18
     clear hzr h hv h18
     go_simp
     exact hK undef _ (fun u hu => by cases hu) (by
      show KpB _ _ _ _ _ _ true (f 17) (f 18) (f 19) (f 20) (f 21) (f 3) (f 4) _
      rw [HV1.out]; exact hfin)
    ·obtain ⟨v, hv, hat⟩ : ∃ v, f 20 = some v ∧ a.tmps[20]? = some v := by assumption
     have h := hS
     rw [hv] at h
     have hfin := h.s3
     have HV1 := hidI hv
     clear hv
     go_simp
     exact hK _ _ (fun u hu => by cases hu) (by
      show KpB _ _ _ _ _ _ (d 7) (f 17) (f 18) (f 19) (f 20) (f 21) (some _) (f 4) W
      rw [HV1.out]; exact hfin)
    ·obtain ⟨v, hv, hat⟩ : ∃ v, f 21 = some v ∧ a.tmps[21]? = some v := by assumption
     have h := hS
     rw [hv] at h
     have hfin := h.s4
     have HV1 := hidI hv
     clear hv
     go_simp
     exact hK _ _ (fun u hu => by cases hu) (by
      show KpB _ _ _ _ _ _ (d 7) (f 17) (f 18) (f 19) (f 20) (f 21) (f 3) (some _) W
      rw [HV1.out]; exact hfin)
   intro d f W9 hS hall hf
   have e7 : d 7 = true := hall 7 (by decide)
   obtain ⟨v3, hv3, -⟩ := hf (some 3, none) (by simp) 3 rfl
   obtain ⟨v4, hv4, -⟩ := hf (some 4, none) (by simp) 4 rfl
   obtain ⟨t, h18, hrow⟩ := hS.r1 e7
   obtain ⟨t', h18', rfl⟩ := hS.y _ (hS.a3 _ hv3)
   obtain rfl : t = t' := tupB_inj (Option.some.inj (h18.symm.trans h18'))
   obtain rfl := hS.z _ (hS.a4 _ hv4)
   obtain ⟨t', e', hown⟩ := hS.k _ h18
   obtain rfl := tupB_inj e'
   have y0 := hrow.at 0 rfl; have y1 := hrow.at 1 rfl; have y2 := hrow.at 2 rfl
   have hBl := hS.b
   simp only [putsD, List.filterMap_cons, List.filterMap_nil, Option.map_some, Option.map_none, Option.getD_some, Option.getD_none, List.foldl_cons, List.foldl_nil, Act.put, List.setIfInBounds_toArray, List.set_cons_zero, List.set_cons_succ]
   rw [hv3, hv4]
   simp only [Option.getD_some]
   generalize (f 17).getD undef = v17
   generalize (f 18).getD undef = v18
   generalize (f 19).getD undef = v19
   generalize (f 20).getD undef = v20
   generalize (f 21).getD undef = v21
   clear hf hv3 hv4 h18 h18' hS e'
   go_wp2
   refine bodyPost_ret (v := tupB R t) (by unfold tupB; simp [results, Tryz.results61, go_sem, y0, y1, y2]) rfl ?_
   rw [HK.out]
   exact ⟨t.1, t.2.1, t.2.2.1, t.2.2.2.1, t.2.2.2.2, rfl, hown, hBl⟩
 ·have HK : Hid (sbA G = (⟨0, 0, []⟩, [], 1)) := by unfold Hid sbA; rw [if_neg (by rw [hr]; exact hr0)]
  have hrb : (r != 0) = true := by simpa using hr0
  clear hr hr0 hin
  go_enter Tryz.func61, Tryz.ntmps61
  go_upto_region 1 with fail
  rw [← hw0]
  clear hw0
  go_wp2_with fail
  refine HCK.out.mono ?_
  rintro e w1 ⟨rfl, hB1⟩
  have x1 := hB0.trans (hB1.mono hB0.size)
  have g1 := b1.below hB1 b1.lt
  have j0 := g1.at 0 rfl; have j1 := g1.at 1 rfl; have j2 := g1.at 2 rfl
  have z0 := g1.frozen 0; have z1 := g1.frozen 1; have z2 := g1.frozen 2
  have r6 := VRow.set (i := 2) (.slice none 0 0) (VRow.set (i := 1) (.int .i64 0) (VRow.set (i := 0) (.int .i64 0) g1))
  have y0 := r6.at 0 rfl; have y1 := r6.at 1 rfl; have y2 := r6.at 2 rfl
  have x6 := ((x1.setCell (show w.heap.size ≤ w.heap.size + 1 by omega) (.int .i64 0) (p := ⟨w.heap.size + 1, 0, none⟩)).setCell (show w.heap.size ≤ w.heap.size + 1 by omega) (.int .i64 0) (p := ⟨w.heap.size + 1, 1, none⟩)).setCell (show w.heap.size ≤ w.heap.size + 1 by omega) (.slice none 0 0) (p := ⟨w.heap.size + 1, 2, none⟩)
  clear f0 f1 f2 g1 r6 b0 b1
  go_wp2
  refine bodyPost_ret (v := .tuple #[.agg #[.int .i64 0, .int .i64 0, .slice none 0 0], .slice none 0 0, .int .i64 1]) (by simp [results, Tryz.results61, go_sem, y0, y1, y2]) rfl ?_
  rw [HK.out]
  exact RetSb.of (G := ⟨0, 0, []⟩) (S := []) rfl rfl (World.ownsRow_nil _ _ _ _) x6
end
section
open Go.RowKit Go.Sort Go.Shelf Go.Lib
def RetGs (R : Gr) (w : World) (e : Ending) (w' : World) : Prop := ∃ p c, e = .returned (.agg #[.int .i64 R.q, .int .i64 R.n, .slice p R.es.length c]) ∧ Sg 3 w' edE p R.es ∧ R.es.length ≤ c ∧ RowKit.Below w.heap.size w w'
def NumJ (o : List Int) (N k : Nat) (L : List Int) : Prop := L.length = N ∧ ∀ j (h : j < o.length), j < k → L[(o[j]).toNat]? = some (j : Int)
theorem NumJ.set {o : List Int} {N k : Nat} {L : List Int} (h : NumJ o N k L) (hk : k < o.length) (hn : o.Nodup) (hb : ∀ x ∈ o, 0 ≤ x ∧ x < (N : Int)) : NumJ o N (k + 1) (L.set (o[k]).toNat k) := by
 refine ⟨by rw [List.length_set]; exact h.1, fun j hj hjk => ?_⟩
 have b1 := hb _ (List.getElem_mem hk); have b2 := hb _ (List.getElem_mem hj)
 rw [List.getElem?_set]
 by_cases e : (o[k]).toNat = (o[j]).toNat
 ·have e2 : o[k] = o[j] := by omega
  have e3 : k = j := (List.getElem_inj hn).1 e2
  subst e3
  rw [if_pos rfl, if_pos (by rw [h.1]; omega)]
 ·rw [if_neg e]
  exact h.2 j hj (by
   by_cases e2 : j = k
   ·subst e2; exact absurd rfl e
   ·omega)
theorem NumJ.at_ {o : List Int} {N : Nat} {L : List Int} (h : NumJ o N o.length L) {x : Int} (hx : x ∈ o) : L[x.toNat]? = some ((o.idxOf x : Nat) : Int) := by
 have hi := List.idxOf_lt_length_iff.2 hx
 have := h.2 _ hi hi
 rwa [List.getElem_idxOf hi] at this
set_option maxRecDepth 100000 in
set_option maxHeartbeats 4000000 in
theorem rmren_any (P : Gr) (pp : Option Addr) (cp : Nat) (w : World) (hin : Sg 3 w edE pp P.es) (hvP : Vg P) (hnP : 0 < P.n) (hall : ∀ x : Int, 0 ≤ x → x < P.n → x ∈ ordA P) :
  Calls Tryz.prog 64 #[(.agg #[.int .i64 P.q, .int .i64 P.n, .slice pp P.es.length cp])] w (RetGs (renG P) w) := by
 obtain ⟨i0, hi0, hz0, hz1, hz3⟩ := info_parts infoIg
 obtain ⟨i9, hi9, hx0, hx1, hx2⟩ := info_parts infoE
 obtain ⟨w0, hw0⟩ : ∃ w0, w0 = (w.alloc (.cells #[.int .i64 P.q, .int .i64 P.n, .slice pp P.es.length cp] 24)).alloc (.cells #[.int .i64 0, .int .i64 0, .slice none 0 0] 24) := ⟨_, rfl⟩
 have b0 : VRow w0 w.heap.size 24 [.int .i64 P.q, .int .i64 P.n, .slice pp P.es.length cp] := by subst hw0; exact (VRow.new w _ _).alloc _
 have b1 : VRow w0 (w.heap.size + 1) 24 [.int .i64 0, .int .i64 0, .slice none 0 0] := by subst hw0; exact VRow.new1 w _ _ _
 have hB0 : RowKit.Below w.heap.size w w0 := by subst hw0; exact ((RowKit.Below.refl _ _).alloc (Nat.le_refl _) _).alloc (by simp) _
 obtain ⟨N, hN⟩ : ∃ N : Nat, P.n = N := ⟨P.n.toNat, by have := hvP.n1; omega⟩
 obtain ⟨Q, hQ⟩ : ∃ Q : Nat, P.q = Q := ⟨P.q.toNat, by have := hvP.q1; omega⟩
 have hN64 : N ≤ 64 := by have := hvP.n2; omega
 have hQ256 : Q ≤ 256 := by have := hvP.q2; omega
 have hNT : P.n.toNat = N := by omega
 have hQT : P.q.toNat = Q := by omega
 have HIN := hidI (hin.below hB0)
 have HQ := hidI hQ; have HN := hidI hN; have HVP := hidI hvP; have HALL := hidI hall; have HNP := hidI hnP
 have HO0 : Hid (Ord P 0 [0]) := ⟨by simp, fun x hx => by obtain rfl := List.mem_singleton.1 hx; omega, by simp, by simp, fun j _ h => by omega⟩
 have HOA : Hid (ordGo P.es Q (N + 1) 0 [0] = ordA P) := by unfold Hid ordA; rw [hNT, hQT]
 have HRV := hidI (fun (i : Nat) (o : List Int) (s : Int) (h : Ord P i o) (hs : o[i]? = some s) => (by have := h.row hvP hs; rw [hQT] at this; exact this : Ord P (i + 1) (ordT P.es s o Q)))
 have HTB := hidI (fun (s a : Int) => tgt_bd hvP s a)
 have HTO := hidI (fun (i : Nat) (o : List Int) (s : Int) (h : Ord P i o) (a : Nat) => ordT_ok hvP (s := s) h a)
 have HTG := hidI (fun (s a : Int) W (hW : RowKit.Below w0.heap.size w0 W) => rtarget_any P pp cp s a W (HIN.out.below hW) (by have := hvP.len; omega))
 have hlen := hvP.len
 clear hvP hall hnP hNT hQT hN hQ hin
 have ho0 := own_oneI w0 0
 obtain ⟨wO, hwO⟩ : ∃ wO, wO = w0.alloc (.cells #[.int .i64 0] 3) := ⟨_, rfl⟩
 have hBO : RowKit.Below w0.heap.size w0 wO := by rw [hwO]; exact (RowKit.Below.refl _ _).alloc (Nat.le_refl _) _
 rw [← hwO] at ho0
 have HPR := hidI (fun W (hW : RowKit.Below w0.heap.size w0 W) => b0.below hW b0.lt)
 have HD9 := hidI (fun W (hW : RowKit.Below w0.heap.size w0 W) => b1.below hW b1.lt)
 go_enter Tryz.func64, Tryz.ntmps64
 go_upto_region 1 with fail
 rw [← hw0]
 clear hw0
 go_upto_region 2 with fail
 rw [← hwO]
 clear hwO
 obtain ⟨zt, hzt⟩ : ∃ zt, zt = w0.heap.size := ⟨_, rfl⟩
 rw [← hzt]
 rw [← hzt] at ho0
 have HZT := hidI hzt
 clear hzt
 go_wp2_with fail
 go_loopw [3, 4] (fun ov iv wr => ∃ (i : Nat) (o : List Int), iv = .int .i64 i ∧ Hid (ordGo P.es Q (N + 1 - i) i o = ordA P) ∧ Hid (Ord P i o) ∧ wr.ownsRow zt 3 1 ov o.length (o.map (Value.int .i64)) ∧ RowKit.Below w0.heap.size w0 wr) (fun _ iv _ => N + 1 - (intOf iv).toNat)
 case atStart => exact ⟨0, [0], rfl, HOA.out, HO0.out, ho0, hBO⟩
 case round =>
  clear ho0 hBO
  obtain ⟨i, o, rfl, hgo, hO, hown, hB⟩ := hrel
  have holen := hO.out.len
  have hole := hO.out.le
  have hNP := HN.out
  have hoN : o.length ≤ N := by omega
  by_cases hlt : i < o.length
  ·have hltI : (i : Int) < (o.length : Int) := by omega
   have hgo2 : Hid (ordGo P.es Q (N + 1 - (i + 1)) (i + 1) (ordT P.es o[i] o Q) = ordA P) := by
    rw [Hid, ← hgo.out, show N + 1 - i = (N + 1 - (i + 1)) + 1 by omega]
    show _ = ordGo P.es Q ((N + 1 - (i + 1)) + 1) i o
    conv => rhs; unfold ordGo
    rw [List.getElem?_eq_getElem hlt]
   have hO2 := hidI (HRV.out i o o[i] hO.out (List.getElem?_eq_getElem hlt))
   have HTL := hidI (fun a => HTO.out i o o[i] hO.out a)
   have HAT : Hid (∀ a, (ordT P.es o[i] o a)[i]? = some o[i]) := fun a => by
    obtain ⟨r, hr⟩ := ordT_app P.es o[i] o a
    rw [hr, List.getElem?_append_left hlt, List.getElem?_eq_getElem hlt]
   obtain ⟨qo, co, hu3, _⟩ := own_sl hown
   subst hu3
   generalize o[i] = s at *
   clear hgo
   have hown0 : wr.ownsRow zt 3 1 (.slice qo o.length co) (ordT P.es s o 0).length ((ordT P.es s o 0).map (Value.int .i64)) := hown
   go_wp2_with fail
   clear hown
   obtain ⟨wo, rfl⟩ : ∃ wo : World, wo = wr := ⟨_, rfl⟩
   go_loopw [3, 5] (fun ov av wx => ∃ a : Nat, a ≤ Q ∧ av = .int .i64 a ∧ wx.ownsRow zt 3 1 ov (ordT P.es s o a).length ((ordT P.es s o a).map (Value.int .i64)) ∧ RowKit.Below w0.heap.size w0 wx) (fun _ av _ => Q - (intOf av).toNat)
   case atStart => exact ⟨0, by omega, rfl, hown0, hB⟩
   case round =>
    clear hown0 hB
    obtain ⟨a, ha, rfl, hown, hB⟩ := hrel
    have holen2 := (HTL.out a).len
    have f0 := (b0.below hB b0.lt).at 0 rfl
    rw [HQ.out] at f0
    by_cases hlta : a < Q
    ·have hltaI : (a : Int) < (Q : Int) := by omega
     have htb := HTB.out s (a : Int)
     have HS := hidI (ordT_succ P.es s o a)
     have HOLD := hidI (@ord1_old P.es s (ordT P.es s o a) a)
     have HNEW := hidI (@ord1_new P.es s (ordT P.es s o a) a)
     have hoN2 : (ordT P.es s o a).length ≤ N := by omega
     have HA := hidI (HAT.out a)
     have HT := hidI (fun W hW => HTG.out s (a : Int) W hW)
     generalize ordT P.es s o a = oa at *
     generalize tgt P.es s a = tv at *
     obtain ⟨hil, hie⟩ := List.getElem?_eq_some_iff.1 HA.out
     have hilI : (i : Int) < (oa.length : Int) := by omega
     obtain ⟨ob, oc, rfl⟩ : ∃ g cap, u3 = .slice (some ⟨g, 0, none⟩) oa.length cap := (own_forms hown).resolve_left (fun h => by omega)
     have hobl := (hown.lt ob rfl).2
     have e0 : wr.cell? ⟨ob, i, none⟩ = some (.int .i64 s) := (hown.cellAt i (by omega)).trans (by rw [List.getElem?_map, HA.out]; rfl)
     clear hie hNP holen holen2
     go_upto_region 8 with fail
     clear f0
     refine region_detL (by kernel_rfl) [(27, (.agg #[.int .i64 P.q, .int .i64 P.n, .slice pp P.es.length cp])), (28, .slice (some ⟨ob, 0, none⟩) oa.length oc), (29, .int .i64 (i : Int)), (30, .pointer (some ⟨ob, i, none⟩)), (31, .int .i64 s), (32, .int .i64 (a : Int)), (33, .int .i64 tv), (6, .int .i64 tv)]
      (fun W => RowKit.Below wr.heap.size wr W) (by kernel_rfl) (by kernel_rfl) (by kernel_rfl) (by kernel_rfl) (below_dN (RowKit.Below.refl _ _) 1) ?_ ?_
     ·intro i' o' ho a' W hS hdep hout K hK
      have hbW := (b0.below (hB.trans (hS.mono hB.size)) b0.lt)
      have g0 := hbW.at 0 rfl; have g1 := hbW.at 1 rfl; have g2 := hbW.at 2 rfl
      have hc4 := (hS.cell (p := ⟨ob, i, none⟩) hobl).trans e0
      have hil' : i' < 8 := (Array.getElem?_eq_some_iff.1 ho).1
      have hcases : i' = 0 ∨ i' = 1 ∨ i' = 2 ∨ i' = 3 ∨ i' = 4 ∨ i' = 5 ∨ i' = 6 ∨ i' = 7 := by omega
      clear hil'
      have v1 := hout 1 (by kernel_rfl)
      have v3 := hout 3 (by kernel_rfl)
      have v4 := hout 4 (by kernel_rfl)
      have v5 := hout 5 (by kernel_rfl)
      simp at v1 v3 v4 v5
      clear hout e0 hbW
      rcases hcases with rfl | rfl | rfl | rfl | rfl | rfl | rfl | rfl
      all_goals (simp only [List.getElem?_toArray, List.getElem?_cons_succ, List.getElem?_cons_zero, Option.some.injEq] at ho; subst ho; simp [Region.binds] at hdep; (try go_split_ands))
      ·go_simp; exact hK _ hS
      ·go_simp; exact hK _ hS
      ·go_simp; exact hK _ hS
      ·go_simp; exact hK _ hS
      ·go_simp; exact hK _ hS
      ·go_simp; exact hK _ hS
      ·go_simp
       refine (HT.out W (hB.trans (hS.mono hB.size))).mono ?_
       rintro e w' ⟨rfl, hB'⟩
       exact hK _ (hS.trans (hB'.mono hS.size))
      ·go_simp; exact hK _ hS
     ·intro W hS
      have hBW := hB.trans (hS.mono hB.size)
      have hownW := hown.below hS
      simp only [putsD, List.foldl_cons, List.foldl_nil, Act.put, List.setIfInBounds_toArray, List.set_cons_zero, List.set_cons_succ]
      clear hown e0 hS hB
      by_cases hto : 0 ≤ tv
      ·have d1 : decide ((0 : Int) ≤ tv) = true := decide_eq_true hto
       obtain ⟨pv, cv, he, hsl⟩ := own_sl hownW
       cases he
       have HHS := hidI (rHas_q oa (some ⟨ob, 0, none⟩) oc tv W hsl (by omega))
       by_cases hm : tv ∈ oa
       ·have HX : Hid (ordT P.es s o (a + 1) = oa) := by rw [Hid, HS.out, HOLD.out (.inr hm)]
        rw [decide_eq_true hm] at HHS
        clear hto HOLD HNEW HS htb hm hsl
        go_wp2_with fail
        refine HHS.out.mono ?_
        rintro e wc2 ⟨rfl, hwc⟩
        replace hwc := hwc.symm
        subst hwc
        go_wp2
        go_roundw
        case rel => exact ⟨a + 1, by omega, by go_num, by rw [HX.out]; exact hownW, hBW⟩
        case measure => simp [intOf]; omega
       ·have HX : Hid (ordT P.es s o (a + 1) = oa ++ [tv]) := by rw [Hid, HS.out, HNEW.out (by omega) hm]
        rw [decide_eq_false hm] at HHS
        have hl1 : (oa ++ [tv]).length = oa.length + 1 := by simp
        have hnew := cell_one_at W (.int .i64 tv) 3 W.heap.size rfl
        have hzz : zt ≤ W.heap.size := by have := hBW.size; have := HZT.out; omega
        have hown3 := hownW.alloc (.cells #[.int .i64 tv] 3)
        clear hto HOLD HNEW HS htb hm hsl
        go_wp2_with fail
        refine HHS.out.mono ?_
        rintro e wc2 ⟨rfl, hwc⟩
        replace hwc := hwc.symm
        subst hwc
        go_wp2_with (at_builtin; refine wpList_append_own _ rfl _ _ 30 rfl zt 3 i0 (.int .i64 0) 1 8 Tryz.underlying30 hi0 hz0 hz1 hz3 rfl (by decide) _ _ _ rfl hown3 ⟨W.heap.size, 0, none⟩ 1 1 [.int .i64 tv] rfl rfl hnew (by simp [Value.oneCell']) (by simp [maxLen]; omega) (by omega) (by simp; omega) ?_; intro v' w9 hown' hgrow _)
        have hB9 : RowKit.Below w0.heap.size w0 w9 := (hBW.alloc hBW.size _).grown hgrow (by have := hBW.size; simp; omega) (fun j e => by have := (hownW.lt j e).1; have := HZT.out; omega)
        go_roundw
        case rel => exact ⟨a + 1, by omega, by go_num, by rw [HX.out, hl1, List.map_append]; exact hown', hB9⟩
        case measure => simp [intOf]; omega
      ·have d1 : decide ((0 : Int) ≤ tv) = false := decide_eq_false hto
       have HX : Hid (ordT P.es s o (a + 1) = oa) := by rw [Hid, HS.out, HOLD.out (.inl (by omega))]
       clear hto HOLD HNEW HS htb
       go_wp2
       go_roundw
       case rel => exact ⟨a + 1, by omega, by go_num, by rw [HX.out]; exact hownW, hBW⟩
       case measure => simp [intOf]; omega
    ·obtain rfl : a = Q := by omega
     have hltaI : ¬ (a : Int) < (a : Int) := by omega
     go_wp2
     go_roundw
     case rel => exact ⟨i + 1, _, by go_num, hgo2, hO2, hown, hB⟩
     case measure => simp [intOf]; omega
  ·have hio : i = o.length := by omega
   subst hio
   obtain ⟨wq, rfl⟩ : ∃ wq : World, wq = wr := ⟨_, rfl⟩
   have hoA : Hid (ordA P = o) := by
    have hn : o[o.length]? = none := List.getElem?_eq_none (Nat.le_refl _)
    rw [Hid, ← hgo.out, show N + 1 - o.length = (N - o.length) + 1 by omega]
    unfold ordGo
    simp only [hn]
   have hop : 0 < o.length := List.length_pos_of_mem hO.out.zero
   obtain ⟨ob, oc, rfl⟩ : ∃ g cap, u3 = .slice (some ⟨g, 0, none⟩) o.length cap := (own_forms hown).resolve_left (fun h => by omega)
   have hobl := (hown.lt ob rfl).2
   have HOC : Hid (∀ j (h : j < o.length) W, RowKit.Below wq.heap.size wq W → W.cell? ⟨ob, j, none⟩ = some (.int .i64 o[j])) := fun j h W hW => (hW.cell (p := ⟨ob, j, none⟩) hobl).trans ((hown.cellAt j (by omega)).trans (by simp [h]))
   have HBD : Hid (∀ x ∈ o, 0 ≤ x ∧ x < (N : Int)) := fun x hx => by have := hO.out.bd x hx; have := HN.out; omega
   have hnd := hidI hO.out.nd
   have hBr := hB0.trans (hB.mono hB0.size)
   have HB0q := hidI hB
   have hPr := HPR.out wq hB
   have hREN := ren_eq HVP.out HNP.out HALL.out
   rw [hoA.out, HQ.out, HN.out] at hREN
   have HREN := hidI hREN
   have HMEM : Hid (∀ x ∈ P.es, x.f ∈ o ∧ x.t ∈ o) := fun x hx => by
    have hb := HVP.out.ins x hx
    have h1 := HALL.out x.f hb.1 hb.2.2.2.1
    have h2 := HALL.out x.t hb.2.2.1 hb.2.2.2.2.1
    rw [hoA.out] at h1 h2
    exact ⟨h1, h2⟩
   have hltI : ¬ (o.length : Int) < (o.length : Int) := by omega
   have f1 := hPr.at 1 rfl
   rw [HN.out] at f1
   have HBR := hidI hBr
   clear hNP hown hgo hO hlt hole holen hoA hREN hPr hB hBr
   generalize renG P = R at *
   go_upto_region 12 with (at_make; refine wpList_make_full _ rfl _ _ 30 rfl wq.heap.size 3 i0 (.int .i64 0) 1 Tryz.underlying30 hi0 hz0 hz1 .i64 .i64 _ _ N rfl rfl (by omega) (by omega) (by rw [hz3]; omega) (by unfold maxLen; omega) (Nat.le_refl _) ?_; intro w5 hownN hgrow)
   have hn5 := made_rowJ hownN
   have hB5 : RowKit.Below wq.heap.size wq w5 := (RowKit.Below.refl _ _).grown hgrow (Nat.le_refl _) (by simp)
   obtain ⟨bn, hbn⟩ : ∃ bn, bn = wq.heap.size := ⟨_, rfl⟩
   rw [← hbn] at hn5
   rw [← hbn]
   have HBN := hidI hbn
   have hn5' : VRow w5 bn 3 ((List.replicate N (0 : Int)).map (Value.int .i64)) := by rw [List.map_replicate]; exact hn5
   clear f1 hltI hgrow hownN hbn hn5
   go_wp2_with fail
   go_loopw [8] (fun kv wx => ∃ (k : Nat) (L : List Int), k ≤ o.length ∧ kv = .int .i64 k ∧ Hid (NumJ o N k L) ∧ VRow wx bn 3 (L.map (Value.int .i64)) ∧ RowKit.Below wq.heap.size wq wx) (fun kv _ => o.length - (intOf kv).toNat)
   case atStart => exact ⟨0, List.replicate N 0, by omega, rfl, ⟨by simp, fun j _ h => absurd h (by omega)⟩, hn5', hB5⟩
   case round =>
    clear hn5' hB5
    obtain ⟨k, L, hk, rfl, hL, hn, hB⟩ := hrel
    by_cases hlt : k < o.length
    ·have hltI : (k : Int) < (o.length : Int) := by omega
     have e0 := HOC.out k hlt wr hB
     have hbk := HBD.out _ (List.getElem_mem hlt)
     obtain ⟨s, hs⟩ : ∃ s : Nat, o[k] = s := ⟨o[k].toNat, by omega⟩
     have hset := hL.out.set hlt hnd.out HBD.out
     rw [hs, Int.toNat_natCast] at hset
     rw [hs] at e0
     have hsN : s < N := by omega
     have hsI : (s : Int) < (N : Int) := by omega
     have hsL : s < L.length := by rw [hL.out.1]; exact hsN
     have kS : wr.cell? ⟨bn, s, none⟩ = some (.int .i64 L[s]) := by rw [hn.cell, List.getElem?_map, List.getElem?_eq_getElem hsL]; rfl
     have kz := hn.frozen s
     have HSET := hidI hset
     clear hs hbk hset hL
     go_wp2_with fail
     go_roundw
     case rel => exact ⟨k + 1, L.set s k, by omega, by go_num, HSET, by rw [List.map_set]; exact VRow.set (i := s) _ hn, hB.setCell (show wq.heap.size ≤ bn by have := HBN.out; omega) _⟩
     case measure => simp [intOf]; omega
    ·obtain rfl : k = o.length := by omega
     have hltI : ¬ (o.length : Int) < (o.length : Int) := by omega
     have hbl := hn.lt
     obtain ⟨w7, rfl⟩ : ∃ w7 : World, w7 = wr := ⟨_, rfl⟩
     have hB7 := HBR.out.trans (hB.mono HBR.out.size)
     have HNU : Hid (∀ x ∈ o, ∀ W, RowKit.Below w7.heap.size w7 W → W.cell? ⟨bn, x.toNat, none⟩ = some (.int .i64 ((o.idxOf x : Nat) : Int))) := fun x hx W hW => by
      rw [hW.cell (p := ⟨bn, x.toNat, none⟩) hbl, hn.cell, List.getElem?_map, hL.out.at_ hx]; rfl
     have hB0w := hB0.size
     have x07 : RowKit.Below w0.heap.size w0 w7 := by
      have := HB0q.out
      exact this.trans (hB.mono this.size)
     have HX07 := hidI x07
     have ho9 : w7.ownsRow w7.heap.size 44 3 (.slice none 0 0) 0 (cat []) := ⟨by simp [cat], .inl ⟨rfl, rfl⟩⟩
     clear hL hn hB x07 HOC
     go_wp2_with fail
     clear hltI
     go_loopw [9, 10] (fun ov kv wx => ∃ k : Nat, k ≤ P.es.length ∧ kv = .int .i64 k ∧ wx.ownsRow w7.heap.size 44 3 ov k (cat ((P.es.take k).map (renE o))) ∧ RowKit.Below w7.heap.size w7 wx) (fun _ kv _ => P.es.length - (intOf kv).toNat)
     case atStart => exact ⟨0, by omega, rfl, ho9, RowKit.Below.refl _ _⟩
     case round =>
      clear ho9
      obtain ⟨k, hk, rfl, hown, hB⟩ := hrel
      have hx0 := HX07.out.trans (hB.mono HX07.out.size)
      have hPr := HPR.out wr hx0
      have g2 := hPr.at 2 rfl
      by_cases hlt : k < P.es.length
      ·have hltI : (k : Int) < (P.es.length : Int) := by omega
       obtain ⟨b3, o3, rfl, hb3, e0, e1, e2⟩ := (HIN.out.below hx0).get3 k hlt rfl
       have hme := HMEM.out _ (List.getElem_mem hlt)
       have hvx := HVP.out.ins _ (List.getElem_mem hlt)
       rw [HN.out] at hvx
       have HNN : Hid ((P.es.take (k + 1)).map (renE o) = (P.es.take k).map (renE o) ++ [renE o P.es[k]]) := by rw [Hid, List.take_succ_eq_append_getElem hlt, List.map_append]; rfl
       generalize (P.es.take k).map (renE o) = M2 at *
       generalize P.es[k] = x at *
       obtain ⟨y, hy⟩ : ∃ y, renE o x = y := ⟨_, rfl⟩
       have hyf : ((o.idxOf x.f : Nat) : Int) = y.f := by rw [← hy]; rfl
       have HYL : Hid (y.l = x.l) := by rw [Hid, ← hy]; rfl
       have hyt : ((o.idxOf x.t : Nat) : Int) = y.t := by rw [← hy]; rfl
       have HF := hidI (fun W hW => HNU.out x.f hme.1 W hW)
       have HT := hidI (fun W hW => HNU.out x.t hme.2 W hW)
       rw [hyf] at HF
       rw [hyt] at HT
       rw [hy] at HNN
       obtain ⟨hf0, hl0, ht0, hf1, ht1, -⟩ := hvx
       obtain ⟨W0, hW0⟩ : ∃ W0, W0 = wr.alloc (.cells #[.int .i64 x.f, .int .i64 x.l, .int .i64 x.t] 44) := ⟨_, rfl⟩
       have bx : VRow W0 wr.heap.size 44 [.int .i64 x.f, .int .i64 x.l, .int .i64 x.t] := by subst hW0; exact VRow.new wr _ _
       have hBb : RowKit.Below wr.heap.size wr W0 := by subst hW0; exact (RowKit.Below.refl _ _).alloc (Nat.le_refl _) _
       have hownb : W0.ownsRow w7.heap.size 44 3 u9 k (cat M2) := by subst hW0; exact hown.alloc _
       have hBw := hB.trans (hBb.mono hB.size)
       have hnx : some wr.heap.size ≠ u9.ownBlock := fun h => by have := (hown.lt _ h.symm).2; omega
       have hzW : ∀ W, RowKit.Below w7.heap.size W0 W → w7.heap.size ≤ W.heap.size := fun W hW => by have := hW.size; have := hBw.size; omega
       obtain ⟨xb, hxb⟩ : ∃ xb, xb = wr.heap.size := ⟨_, rfl⟩
       rw [← hxb] at hnx bx
       have HZW := hidI hzW; have HBW := hidI hBw
       have hS0 : KpE w7.heap.size W0 u9 k M2 y xb x false none none none { W0 with drawn := W0.drawn + 1 } :=
        ⟨below_dN (RowKit.Below.refl _ _) 1, bx.dr ⟨1, rfl⟩, (fun _ => hownb.dr ⟨1, rfl⟩), (fun _ _ e => by cases e), (fun e => by cases e), (fun _ e => by cases e)⟩
       have e0 : wr.cell? ⟨b3, o3 + k * 3, none⟩ = some (.int .i64 x.f) := e0
       have e1 : wr.cell? ⟨b3, o3 + k * 3 + 1, none⟩ = some (.int .i64 x.l) := e1
       have e2 : wr.cell? ⟨b3, o3 + k * 3 + 2, none⟩ = some (.int .i64 x.t) := e2
       clear hme hy hzW hBw hBb bx hPr hx0
       go_upto_region 21 with fail
       rw [← hW0, ← hxb]
       clear hW0 hxb e0 e1 e2 hyf hyt g2
       refine region_detW (by kernel_rfl) 17 [(some 74, some u9), (some 75, some (.slice (some ⟨bn, 0, none⟩) N N)), (some 76, some (.pointer (some ⟨xb, 0, none⟩))), (some 77, some (.int .i64 x.f)), (some 78, some (.pointer (some ⟨bn, x.f.toNat, none⟩))), (some 79, some (.int .i64 y.f)), (some 80, some (.pointer (some ⟨xb, 1, none⟩))), (some 81, some (.int .i64 x.l)), (some 82, some (.slice (some ⟨bn, 0, none⟩) N N)), (some 83, some (.pointer (some ⟨xb, 2, none⟩))), (some 84, some (.int .i64 x.t)), (some 85, some (.pointer (some ⟨bn, x.t.toNat, none⟩))), (some 86, some (.int .i64 y.t)), (some 87, some (.agg #[.int .i64 y.f, .int .i64 x.l, .int .i64 y.t])), (some 88, none), (some 89, none), (some 9, none)]
        (fun d f W => KpE w7.heap.size W0 u9 k M2 y xb x (d 15) (f 88) (f 89) (f 9) W) (by kernel_rfl) (by kernel_rfl) (by kernel_rfl) (by kernel_rfl) hS0 ?_ ?_
       focus
        intro i o' ho a d f W hS hdi hdn hnd hdep hout hold K hK
        have hil : i < 17 := (Array.getElem?_eq_some_iff.1 ho).1
        have hcases : i = 0 ∨ i = 1 ∨ i = 2 ∨ i = 3 ∨ i = 4 ∨ i = 5 ∨ i = 6 ∨ i = 7 ∨ i = 8 ∨ i = 9 ∨ i = 10 ∨ i = 11 ∨ i = 12 ∨ i = 13 ∨ i = 14 ∨ i = 15 ∨ i = 16 := by omega
        clear hil
        have u7' := hout 7 (by kernel_rfl)
        have u11' := hout 11 (by kernel_rfl)
        simp at u7' u11'
        clear hout
        have hc0 := hS.x.at 0 rfl
        have hc1 := hS.x.at 1 rfl
        have hc2 := hS.x.at 2 rfl
        have hc3 := HF.out W (HBW.out.trans hS.b)
        have hc4 := HT.out W (HBW.out.trans hS.b)
        rcases hcases with rfl | rfl | rfl | rfl | rfl | rfl | rfl | rfl | rfl | rfl | rfl | rfl | rfl | rfl | rfl | rfl | rfl
        ·have h9 := (hold 16 (by kernel_rfl) _ rfl 9 rfl).2
         simp at h9
         (simp only [List.getElem?_toArray, List.getElem?_cons_succ, List.getElem?_cons_zero, Option.some.injEq] at ho; subst ho; simp [Region.binds] at hdep; (try go_split_ands)); go_simp; exact hK _ _ (fun u hu => Option.some.inj hu) hS
        ·(simp only [List.getElem?_toArray, List.getElem?_cons_succ, List.getElem?_cons_zero, Option.some.injEq] at ho; subst ho; simp [Region.binds] at hdep; (try go_split_ands)); go_simp; exact hK _ _ (fun u hu => Option.some.inj hu) hS
        ·(simp only [List.getElem?_toArray, List.getElem?_cons_succ, List.getElem?_cons_zero, Option.some.injEq] at ho; subst ho; simp [Region.binds] at hdep; (try go_split_ands)); go_simp; exact hK _ _ (fun u hu => Option.some.inj hu) hS
        ·(simp only [List.getElem?_toArray, List.getElem?_cons_succ, List.getElem?_cons_zero, Option.some.injEq] at ho; subst ho; simp [Region.binds] at hdep; (try go_split_ands)); go_simp; exact hK _ _ (fun u hu => Option.some.inj hu) hS
        ·(simp only [List.getElem?_toArray, List.getElem?_cons_succ, List.getElem?_cons_zero, Option.some.injEq] at ho; subst ho; simp [Region.binds] at hdep; (try go_split_ands)); go_simp; exact hK _ _ (fun u hu => Option.some.inj hu) hS
        ·(simp only [List.getElem?_toArray, List.getElem?_cons_succ, List.getElem?_cons_zero, Option.some.injEq] at ho; subst ho; simp [Region.binds] at hdep; (try go_split_ands)); go_simp; exact hK _ _ (fun u hu => Option.some.inj hu) hS
        ·(simp only [List.getElem?_toArray, List.getElem?_cons_succ, List.getElem?_cons_zero, Option.some.injEq] at ho; subst ho; simp [Region.binds] at hdep; (try go_split_ands)); go_simp; exact hK _ _ (fun u hu => Option.some.inj hu) hS
        ·(simp only [List.getElem?_toArray, List.getElem?_cons_succ, List.getElem?_cons_zero, Option.some.injEq] at ho; subst ho; simp [Region.binds] at hdep; (try go_split_ands)); go_simp; exact hK _ _ (fun u hu => Option.some.inj hu) hS
        ·(simp only [List.getElem?_toArray, List.getElem?_cons_succ, List.getElem?_cons_zero, Option.some.injEq] at ho; subst ho; simp [Region.binds] at hdep; (try go_split_ands)); go_simp; exact hK _ _ (fun u hu => Option.some.inj hu) hS
        ·(simp only [List.getElem?_toArray, List.getElem?_cons_succ, List.getElem?_cons_zero, Option.some.injEq] at ho; subst ho; simp [Region.binds] at hdep; (try go_split_ands)); go_simp; exact hK _ _ (fun u hu => Option.some.inj hu) hS
        ·(simp only [List.getElem?_toArray, List.getElem?_cons_succ, List.getElem?_cons_zero, Option.some.injEq] at ho; subst ho; simp [Region.binds] at hdep; (try go_split_ands)); go_simp; exact hK _ _ (fun u hu => Option.some.inj hu) hS
        ·(simp only [List.getElem?_toArray, List.getElem?_cons_succ, List.getElem?_cons_zero, Option.some.injEq] at ho; subst ho; simp [Region.binds] at hdep; (try go_split_ands)); go_simp; exact hK _ _ (fun u hu => Option.some.inj hu) hS
        ·(simp only [List.getElem?_toArray, List.getElem?_cons_succ, List.getElem?_cons_zero, Option.some.injEq] at ho; subst ho; simp [Region.binds] at hdep; (try go_split_ands)); go_simp; exact hK _ _ (fun u hu => Option.some.inj hu) hS
        ·(simp only [List.getElem?_toArray, List.getElem?_cons_succ, List.getElem?_cons_zero, Option.some.injEq] at ho; subst ho; simp [Region.binds] at hdep; (try go_split_ands)); go_simp; exact hK _ _ (fun u hu => Option.some.inj hu) hS
        ·have e13 := hnd 15 (by kernel_rfl)
         have h134 := (hold 14 (by kernel_rfl) _ rfl 88 rfl).1
         have h := hS
         rw [e13, h134] at h
         have hfin := h.alloc (HZW.out W hS.b)
         rw [HYL.out] at hfin
         clear h
         (simp only [List.getElem?_toArray, List.getElem?_cons_succ, List.getElem?_cons_zero, Option.some.injEq] at ho; subst ho; simp [Region.binds] at hdep; (try go_split_ands))
         go_simp
         exact hK _ _ (fun u hu => by cases hu) (by
          show KpE _ _ _ _ _ _ _ _ (d 15) (some _) (f 89) (f 9) _
          rw [e13]; exact hfin)
        ·have h135 := (hold 15 (by kernel_rfl) _ rfl 89 rfl).1
         have h17 := (hold 16 (by kernel_rfl) _ rfl 9 rfl).1
         have e13 : d 15 = false := hdi
         (simp only [List.getElem?_toArray, List.getElem?_cons_succ, List.getElem?_cons_zero, Option.some.injEq] at ho; subst ho; simp [Region.binds] at hdep; (try go_split_ands))
         obtain ⟨v, hv, hat⟩ : ∃ v, f 88 = some v ∧ a.tmps[88]? = some v := by assumption
         have h := hS
         rw [e13, hv, h135, h17] at h
         obtain ⟨c, rfl, hc⟩ := h.m rfl _ rfl
         refine step_append_sg (by rfl) (.tmp 74) (.tmp 88) 22 (by rfl) u9 (some ⟨c, 0, none⟩) 1 1 (by simp [Act.eval, *]) (by simp [Act.eval, *]) w7.heap.size 44 i9 _ Tryz.underlying22 hi9 hx0 hx1 hx2 rfl M2 k [y] rfl (by omega) (h.o rfl) (Sg.of_row (l := [y]) hc) (HZW.out W h.b) ?_
         intro v' w' hown' hg'
         exact hK _ _ (fun u hu => by cases hu) (by
          show KpE _ _ _ _ _ _ _ _ true (f 88) (some _) (f 9) _
          rw [hv, h17]
          exact h.app (HZW.out W h.b) hnx hown' hg')
        ·(simp only [List.getElem?_toArray, List.getElem?_cons_succ, List.getElem?_cons_zero, Option.some.injEq] at ho; subst ho; simp [Region.binds] at hdep; (try go_split_ands))
         obtain ⟨v, hv, hat⟩ : ∃ v, f 89 = some v ∧ a.tmps[89]? = some v := by assumption
         have h := hS
         rw [hv] at h
         have hfin := h.asg
         go_simp
         exact hK _ _ (fun u hu => by cases hu) (by
          show KpE _ _ _ _ _ _ _ _ (d 15) (f 88) (f 89) (some _) W
          rw [hv]; exact hfin)
       intro d f W9 hS hall hf
       have e13 : d 15 = true := hall 15 (by decide)
       obtain ⟨v17, hv17, -⟩ := hf (some 9, none) (by simp) 9 rfl
       obtain ⟨v, hv, hown9⟩ := hS.a e13
       have hz17 := hS.z _ hv17
       rw [hv] at hz17
       cases hz17
       have hB9 := HBW.out.trans hS.b
       simp only [putsD, List.filterMap_cons, List.filterMap_nil, Option.map_some, Option.map_none, Option.getD_some, Option.getD_none, List.foldl_cons, List.foldl_nil, Act.put, List.setIfInBounds_toArray, List.set_cons_zero, List.set_cons_succ]
       rw [hv17]
       simp only [Option.getD_some]
       generalize (f 88).getD undef = v88
       generalize (f 89).getD undef = v89
       clear hf hv17 hv hS hown hownb hB
       go_wp2
       go_roundw
       case rel => exact ⟨k + 1, by omega, by go_num, by rw [HNN.out]; exact hown9, hB9⟩
       case measure => simp [intOf]; omega
      ·have hltI : ¬ (k : Int) < (P.es.length : Int) := by omega
       obtain rfl : k = P.es.length := by omega
       rw [List.take_length] at hown
       obtain ⟨pv, cv, rfl, hsv, _, _⟩ := own_sg hown
       have HM := hidI (rMake_any Q N (P.es.map (renE o)) pv cv wr hsv (by rw [List.length_map]; omega))
       rw [HREN.out, List.length_map] at HM
       have hBr2 := hB7.trans (hB.mono hB7.size)
       have d9 := HD9.out wr hx0
       have g0 := hPr.at 0 rfl; have g1 := hPr.at 1 rfl
       rw [HQ.out] at g0
       rw [HN.out] at g1
       clear hown hsv hPr hB hx0
       go_wp2_with fail
       refine HM.out.mono ?_
       rintro e w3 ⟨p3, c3, rfl, hs3, hl3, hB3⟩
       have x9 := hBr2.trans (hB3.mono hBr2.size)
       have e1 := d9.below hB3 d9.lt
       obtain ⟨w4, hw4⟩ : ∃ w4, w4 = w3.alloc (.cells #[.int .i64 R.q, .int .i64 R.n, .slice p3 R.es.length c3] 24) := ⟨_, rfl⟩
       have e4 : VRow w4 (w.heap.size + 1) 24 [.int .i64 0, .int .i64 0, .slice none 0 0] := by subst hw4; exact e1.alloc _
       have hr4 : VRow w4 w3.heap.size 24 [.int .i64 R.q, .int .i64 R.n, .slice p3 R.es.length c3] := by subst hw4; exact VRow.new w3 _ _
       have hB4 : RowKit.Below w3.heap.size w3 w4 := by subst hw4; exact (RowKit.Below.refl _ _).alloc (Nat.le_refl _) _
       have hs4 := hs3.below hB4
       have x4 := x9.trans (hB4.mono x9.size)
       have n0 := hr4.at 0 rfl; have n1 := hr4.at 1 rfl; have n2 := hr4.at 2 rfl
       have j0 := e4.at 0 rfl; have j1 := e4.at 1 rfl; have j2 := e4.at 2 rfl
       have z0 := e4.frozen 0; have z1 := e4.frozen 1; have z2 := e4.frozen 2
       have r1 := VRow.set (i := 0) (.int .i64 R.q) e4
       have r2 := VRow.set (i := 1) (.int .i64 R.n) r1
       have r3 := VRow.set (i := 2) (.slice p3 R.es.length c3) r2
       have hs9 := sg_boxN r2 (sg_boxN r1 (sg_boxN e4 hs4 0 (.int .i64 R.q)) 1 (.int .i64 R.n)) 2 (.slice p3 R.es.length c3)
       have x10 := ((x4.setCell (p := ⟨w.heap.size + 1, 0, none⟩) (by simp) (.int .i64 R.q)).setCell (p := ⟨w.heap.size + 1, 1, none⟩) (by simp) (.int .i64 R.n)).setCell (p := ⟨w.heap.size + 1, 2, none⟩) (by simp) (.slice p3 R.es.length c3)
       have y0 := r3.at 0 rfl; have y1 := r3.at 1 rfl; have y2 := r3.at 2 rfl
       clear g0 g1 g2 e1 hr4 hB4 r1 r2 r3 e4
       go_upto_region 23 with fail
       rw [← hw4]
       clear hw4
       go_wp2
       refine bodyPost_ret (v := (.agg #[.int .i64 R.q, .int .i64 R.n, .slice p3 R.es.length c3])) (by simp [results, Tryz.results64, go_sem, y0, y1, y2]) rfl ?_
       exact ⟨p3, c3, rfl, hs9, hl3, x10⟩
end
section
open Go.RowKit Go.Sort Go.Shelf Go.Lib
structure KpV (w W6 : World) (P R : Gr) (d6 : Bool) (f51 f52 : Option Value) (W : World) : Prop where
 b : d6 = false → RowKit.Below W6.heap.size W6 W
 p : d6 = false → ∀ v, f51 = some v → ∃ q c, v = (.agg #[.int .i64 P.q, .int .i64 P.n, .slice q P.es.length c]) ∧ Sg 3 W edE q P.es
 r : d6 = false → ∀ v, f52 = some v → ∃ q c, v = (.agg #[.int .i64 R.q, .int .i64 R.n, .slice q R.es.length c]) ∧ Sg 3 W edE q R.es ∧ R.es.length ≤ c
 o : d6 = true → ∃ q c, VRow W (w.heap.size + 1) 24 [.int .i64 R.q, .int .i64 R.n, .slice q R.es.length c] ∧ Sg 3 W edE q R.es ∧ R.es.length ≤ c ∧ RowKit.Below w.heap.size w W
section
variable {w W6 : World} {P R : Gr} {f51 f52 : Option Value} {W W' : World}
theorem KpV.part {v : Value} {q : Option Addr} {c : Nat} (h : KpV w W6 P R false none none W) (hB : RowKit.Below W.heap.size W W') (hv : v = (.agg #[.int .i64 P.q, .int .i64 P.n, .slice q P.es.length c])) (hs : Sg 3 W' edE q P.es) : KpV w W6 P R false (some v) none W' :=
 ⟨fun _ => (h.b rfl).trans (hB.mono (h.b rfl).size), fun _ u hu => ⟨q, c, by cases hu; exact hv, hs⟩, (fun _ _ e => by cases e), (fun e => by cases e)⟩
theorem KpV.ren {v : Value} {q : Option Addr} {c : Nat} (h : KpV w W6 P R false f51 none W) (hB : RowKit.Below W.heap.size W W') (hv : v = (.agg #[.int .i64 R.q, .int .i64 R.n, .slice q R.es.length c])) (hs : Sg 3 W' edE q R.es) (hc : R.es.length ≤ c) : KpV w W6 P R false f51 (some v) W' :=
 ⟨fun _ => (h.b rfl).trans (hB.mono (h.b rfl).size), fun _ u hu => by obtain ⟨q, c, e, hs⟩ := h.p rfl u hu; exact ⟨q, c, e, hs.below hB⟩, fun _ u hu => ⟨q, c, by cases hu; exact hv, hs, hc⟩, (fun e => by cases e)⟩
theorem KpV.store {q : Option Addr} {c : Nat} (h : KpV w W6 P R false f51 f52 W) (hx : RowKit.Below w.heap.size w W6) (hz : VRow W6 (w.heap.size + 1) 24 [.int .i64 0, .int .i64 0, .slice none 0 0]) (hs : Sg 3 W edE q R.es) (hc : R.es.length ≤ c) :
  KpV w W6 P R true f51 f52 (((W.setCell ⟨w.heap.size + 1, 0, none⟩ (.int .i64 R.q)).setCell ⟨w.heap.size + 1, 1, none⟩ (.int .i64 R.n)).setCell ⟨w.heap.size + 1, 2, none⟩ (.slice q R.es.length c)) := by
 have hb := h.b rfl
 have r0 := hz.below hb hz.lt
 have r1 := VRow.set (i := 0) (.int .i64 R.q) r0
 have r2 := VRow.set (i := 1) (.int .i64 R.n) r1
 have r3 := VRow.set (i := 2) (.slice q R.es.length c) r2
 exact ⟨(fun e => by cases e), (fun e => by cases e), (fun e => by cases e), fun _ => ⟨q, c, r3, sg_boxN r2 (sg_boxN r1 (sg_boxN r0 hs _ _) _ _) _ _, hc,
  (((hx.trans (hb.mono hx.size)).setCell (p := ⟨w.heap.size + 1, 0, none⟩) (by simp) _).setCell (p := ⟨w.heap.size + 1, 1, none⟩) (by simp) _).setCell (p := ⟨w.heap.size + 1, 2, none⟩) (by simp) _⟩⟩
end
set_option maxRecDepth 100000 in
set_option maxHeartbeats 4000000 in
theorem rmCover_any (G : Gr) (p : Option Addr) (c : Nat) (w : World) (hin : Sg 3 w edE p G.es) (hl : G.es.length ≤ 9223372036854775807) :
  Calls Tryz.prog 14 #[(.agg #[.int .i64 G.q, .int .i64 G.n, .slice p G.es.length c])] w (RetGr (covA G).1 (covA G).2 w) := by
 obtain ⟨w0, hw0⟩ : ∃ w0, w0 = (w.alloc (.cells #[.int .i64 G.q, .int .i64 G.n, .slice p G.es.length c] 24)).alloc (.cells #[.int .i64 0, .int .i64 0, .slice none 0 0] 24) := ⟨_, rfl⟩
 have b0 : VRow w0 w.heap.size 24 [.int .i64 G.q, .int .i64 G.n, .slice p G.es.length c] := by subst hw0; exact (VRow.new w _ _).alloc _
 have b1 : VRow w0 (w.heap.size + 1) 24 [.int .i64 0, .int .i64 0, .slice none 0 0] := by subst hw0; exact VRow.new1 w _ _ _
 have hB0 : RowKit.Below w.heap.size w w0 := by subst hw0; exact ((RowKit.Below.refl _ _).alloc (Nat.le_refl _) _).alloc (by simp) _
 have HIN := hidI (hin.below hB0)
 obtain ⟨r, hr⟩ : ∃ r, chkG G = r := ⟨_, rfl⟩
 have HCK := hidI (rCheck_r G p c w0 r hr (hin.below hB0) hl)
 have f0 := b0.at 0 rfl; have f1 := b0.at 1 rfl; have f2 := b0.at 2 rfl
 by_cases hc : r = 0
 case neg =>
  have HK : Hid (covA G = (⟨0, 0, []⟩, 1)) := if_pos (by rw [hr]; exact hc)
  have hrb : (r != 0) = true := by simpa using hc
  clear hc hin hr
  go_enter Tryz.func14, Tryz.ntmps14
  go_upto_region 1 with fail
  rw [← hw0]
  clear hw0
  go_wp2_with fail
  refine HCK.out.mono ?_
  rintro e w1 ⟨rfl, hB1⟩
  have x1 := hB0.trans (hB1.mono hB0.size)
  have d1 := b1.below hB1 b1.lt
  clear f0 f1 f2 b0 b1
  (have j0 := (d1).at 0 rfl; have j1 := (d1).at 1 rfl; have j2 := (d1).at 2 rfl; have z0 := (d1).frozen 0; have z1 := (d1).frozen 1; have z2 := (d1).frozen 2; have HBZ := hidI d1; have HXZ := hidI x1)
  clear d1
  (go_wp2; have r6 := VRow.set (i := 2) (.slice none 0 0) (VRow.set (i := 1) (.int .i64 0) (VRow.set (i := 0) (.int .i64 0) HBZ.out)); have y0 := r6.at 0 rfl; have y1 := r6.at 1 rfl; have y2 := r6.at 2 rfl; refine bodyPost_ret (v := .tuple #[.agg #[.int .i64 0, .int .i64 0, .slice none 0 0], .int .i64 1]) (by simp [results, Tryz.results14, go_sem, y0, y1, y2]) rfl ?_; exact RetGr.zero HK.out (((HXZ.out.setCell (p := ⟨w.heap.size + 1, 0, none⟩) (by simp) (.int .i64 0)).setCell (p := ⟨w.heap.size + 1, 1, none⟩) (by simp) (.int .i64 0)).setCell (p := ⟨w.heap.size + 1, 2, none⟩) (by simp) (.slice none 0 0)))
 case pos =>
  subst hc
  have hv := chkG_ok.1 hr
  have e1 : (ofA G).2 = 0 := by unfold ofA; rw [if_pos hr]
  have HIR := hidI (fun W (hW : RowKit.Below w0.heap.size w0 W) => r10Irr_any G p c W (HIN.out.below hW) hl)
  rw [e1, decide_eq_true hr, Bool.true_and] at HIR
  cases hir : irrA G
  ·have HK : Hid (covA G = (⟨0, 0, []⟩, 8)) := by unfold Hid covA; rw [if_neg (by simpa using hr), if_pos hir]
   rw [hir] at HIR
   clear hr hin e1 hir
   go_enter Tryz.func14, Tryz.ntmps14
   go_upto_region 1 with fail
   rw [← hw0]
   clear hw0
   go_wp2_with fail
   refine HCK.out.mono ?_
   rintro e w1 ⟨rfl, hB1⟩
   have x1 := hB0.trans (hB1.mono hB0.size)
   have d0 := b0.below hB1 b0.lt; have d1 := b1.below hB1 b1.lt
   clear f0 f1 f2 b0 b1
   have f0 := d0.at 0 rfl; have f1 := d0.at 1 rfl; have f2 := d0.at 2 rfl
   go_wp2_with fail
   refine (HIR.out w1 hB1).mono ?_
   rintro e w2 ⟨rfl, hB2⟩
   have x2 := x1.trans (hB2.mono x1.size)
   have d2 := d1.below hB2 d1.lt
   clear f0 f1 f2 d0 d1
   (have j0 := (d2).at 0 rfl; have j1 := (d2).at 1 rfl; have j2 := (d2).at 2 rfl; have z0 := (d2).frozen 0; have z1 := (d2).frozen 1; have z2 := (d2).frozen 2; have HBZ := hidI d2; have HXZ := hidI x2)
   clear d2
   (go_wp2; have r6 := VRow.set (i := 2) (.slice none 0 0) (VRow.set (i := 1) (.int .i64 0) (VRow.set (i := 0) (.int .i64 0) HBZ.out)); have y0 := r6.at 0 rfl; have y1 := r6.at 1 rfl; have y2 := r6.at 2 rfl; refine bodyPost_ret (v := .tuple #[.agg #[.int .i64 0, .int .i64 0, .slice none 0 0], .int .i64 8]) (by simp [results, Tryz.results14, go_sem, y0, y1, y2]) rfl ?_; exact RetGr.zero HK.out (((HXZ.out.setCell (p := ⟨w.heap.size + 1, 0, none⟩) (by simp) (.int .i64 0)).setCell (p := ⟨w.heap.size + 1, 1, none⟩) (by simp) (.int .i64 0)).setCell (p := ⟨w.heap.size + 1, 2, none⟩) (by simp) (.slice none 0 0)))
  ·rw [hir] at HIR
   have HSB := hidI (fun W (hW : RowKit.Below w0.heap.size w0 W) => r12Build_any G p c W (HIN.out.below hW) hl)
   have HE := hidI (sbA_err G hr)
   have HOK := hidI (fun h : (sbA G).2.2 = 0 => sbA_ok h)
   have HCV : Hid (covA G = if (sbA G).2.2 ≠ 0 then (⟨0, 0, []⟩, (sbA G).2.2) else (cov4 (mgG (sbA G).1), 0)) := by unfold Hid covA; rw [if_neg (by simpa using hr), if_neg (by simp [hir])]
   have HPOS : Hid ((sbA G).2.2 = 0 → 0 < (sbA G).1.n) := fun h => sb_pos hv hir h
   generalize sbA G = sb at *
   obtain ⟨D, sets, kd⟩ := sb
   clear hr hin e1 hir
   go_enter Tryz.func14, Tryz.ntmps14
   go_upto_region 1 with fail
   rw [← hw0]
   clear hw0
   go_wp2_with fail
   refine HCK.out.mono ?_
   rintro e w1 ⟨rfl, hB1⟩
   have x1 := hB0.trans (hB1.mono hB0.size)
   have d0 := b0.below hB1 b0.lt; have d1 := b1.below hB1 b1.lt
   clear f0 f1 f2 b0 b1
   have f0 := d0.at 0 rfl; have f1 := d0.at 1 rfl; have f2 := d0.at 2 rfl
   go_wp2_with fail
   refine (HIR.out w1 hB1).mono ?_
   rintro e w2 ⟨rfl, hB2⟩
   have xB2 := hB1.trans (hB2.mono hB1.size)
   have c0 := d0.below hB2 d0.lt; have c1 := d1.below hB2 d1.lt
   clear f0 f1 f2 d0 d1
   have f0 := c0.at 0 rfl; have f1 := c0.at 1 rfl; have f2 := c0.at 2 rfl
   go_wp2_with fail
   refine (HSB.out w2 xB2).mono ?_
   rintro e w3 ⟨pd, cd, ps, ms, cs, rfl, hod, hB3⟩
   replace hod : w3.ownsRow w2.heap.size 44 3 (.slice pd D.es.length cd) D.es.length (cat D.es) := hod
   have xB3 := xB2.trans (hB3.mono xB2.size)
   have x3 := hB0.trans (xB3.mono hB0.size)
   have d3 := c1.below hB3 c1.lt
   clear f0 f1 f2 c0 c1 HIR HSB
   obtain ⟨w4, hw4⟩ : ∃ w4, w4 = w3.alloc (.cells #[.int .i64 D.q, .int .i64 D.n, .slice pd D.es.length cd] 24) := ⟨_, rfl⟩
   have hrD : VRow w4 w3.heap.size 24 [.int .i64 D.q, .int .i64 D.n, .slice pd D.es.length cd] := by subst hw4; exact VRow.new w3 _ _
   have hbD : RowKit.Below w3.heap.size w3 w4 := by subst hw4; exact (RowKit.Below.refl _ _).alloc (Nat.le_refl _) _
   have x4 := x3.trans (hbD.mono x3.size)
   have d4 := d3.below hbD d3.lt
   obtain ⟨pd', cd', hpe, hsD, _, _⟩ := own_sg hod
   cases hpe
   have hsD4 := hsD.below hbD
   replace HE : Hid (kd = 0 ∨ kd = 4) := HE
   replace HCV : Hid (covA G = if kd ≠ 0 then (⟨0, 0, []⟩, kd) else (cov4 (mgG D), 0)) := HCV
   replace HOK : Hid (kd = 0 → Vg D ∧ Uq D.es) := HOK
   replace HPOS : Hid (kd = 0 → 0 < D.n) := HPOS
   by_cases hk : kd = 0
   case neg =>
    have hkb : (kd != 0) = true := by simpa using hk
    have HK : Hid (covA G = (⟨0, 0, []⟩, kd)) := by rw [Hid, HCV.out, if_pos hk]
    clear hk
    go_upto_region 7 with fail
    rw [← hw4]
    clear hw4 d3
    (have j0 := (d4).at 0 rfl; have j1 := (d4).at 1 rfl; have j2 := (d4).at 2 rfl; have z0 := (d4).frozen 0; have z1 := (d4).frozen 1; have z2 := (d4).frozen 2; have HBZ := hidI d4; have HXZ := hidI x4)
    clear d4
    (go_wp2; have r6 := VRow.set (i := 2) (.slice none 0 0) (VRow.set (i := 1) (.int .i64 0) (VRow.set (i := 0) (.int .i64 0) HBZ.out)); have y0 := r6.at 0 rfl; have y1 := r6.at 1 rfl; have y2 := r6.at 2 rfl; refine bodyPost_ret (v := .tuple #[.agg #[.int .i64 0, .int .i64 0, .slice none 0 0], .int .i64 kd]) (by simp [results, Tryz.results14, go_sem, y0, y1, y2]) rfl ?_; exact RetGr.zero HK.out (((HXZ.out.setCell (p := ⟨w.heap.size + 1, 0, none⟩) (by simp) (.int .i64 0)).setCell (p := ⟨w.heap.size + 1, 1, none⟩) (by simp) (.int .i64 0)).setCell (p := ⟨w.heap.size + 1, 2, none⟩) (by simp) (.slice none 0 0)))
   case pos =>
    subst hk
    obtain ⟨hvD, huD⟩ := HOK.out (by first | rfl | trivial)
    have hnD := HPOS.out (by first | rfl | trivial)
    obtain ⟨l, ls, hsk, hst, hvP, huP, hnP, hall, hcv⟩ := cov4_ok (mg_vg hvD) (mg_uq' hvD huD) (by have e := cl_lt (G := D) (s := 0) (by omega); show 0 < mxC (clA D); omega)
    have HK : Hid (covA G = (renG (partA (mgG D) l), 0)) := by rw [Hid, HCV.out, if_neg (by simp), hcv]
    have HMM := hidI (rmMerge_any D pd cd w4 hsD4 (by have := hvD.len; omega))
    rw [merA_ok (chkD_ok (chkG_ok.2 hvD) (det_of_uq huD)), mg_eq hvD] at HMM
    have hvM := mg_vg hvD
    obtain ⟨M, hM⟩ : ∃ M, mgG D = M := ⟨_, rfl⟩
    rw [hM] at HMM hvM hsk hst hvP huP hnP hall HK
    have hq0 := hrD.at 0 rfl; have hq1 := hrD.at 1 rfl; have hq2 := hrD.at 2 rfl
    clear HE HOK HPOS HCV hM hcv hvD huD hnD
    go_upto_region 7 with fail
    rw [← hw4]
    clear hw4 d3 hbD hsD hod
    go_wp2_with fail
    refine HMM.out.mono ?_
    rintro e w5 ⟨pm, cm, qc, dc, rfl, hsM, hcm, _, hB5⟩
    have x5 := x4.trans (hB5.mono x4.size)
    have d5 := d4.below hB5 d4.lt
    clear hq0 hq1 hq2 hrD d4 hsD4 HMM
    obtain ⟨w6, hw6⟩ : ∃ w6, w6 = w5.alloc (.cells #[.int .i64 M.q, .int .i64 M.n, .slice pm M.es.length cm] 24) := ⟨_, rfl⟩
    have hrM : VRow w6 w5.heap.size 24 [.int .i64 M.q, .int .i64 M.n, .slice pm M.es.length cm] := by subst hw6; exact VRow.new w5 _ _
    have hbM : RowKit.Below w5.heap.size w5 w6 := by subst hw6; exact (RowKit.Below.refl _ _).alloc (Nat.le_refl _) _
    have x6 := x5.trans (hbM.mono x5.size)
    have d6 := d5.below hbM d5.lt
    have hsM6 := hsM.below hbM
    have HSK := hidI (r10Sinks_any M pm cm w6 hsM6 (by have := hvM.len; omega))
    have e1 : ofA M = (compsA M, 0) := by unfold ofA; rw [if_pos (chkG_ok.2 hvM)]
    have hsk' : (compsA M).filter (sinkB M) = l :: ls := hsk
    rw [e1, hsk'] at HSK
    obtain ⟨mb, hmb⟩ : ∃ mb, mb = w5.heap.size := ⟨_, rfl⟩
    rw [← hmb] at hrM
    have hq0 := hrM.at 0 rfl; have hq1 := hrM.at 1 rfl; have hq2 := hrM.at 2 rfl
    clear e1 hsk hsk'
    go_upto_region 10 with fail
    rw [← hw6, ← hmb]
    clear hw6 d5 hbM hsM hmb
    go_wp2_with fail
    refine HSK.out.mono ?_
    rintro e w7 ⟨qs, ds, rfl, hll, hB7⟩
    have x7 := x6.trans (hB7.mono x6.size)
    have d7 := d6.below hB7 d6.lt
    have hM7 := hrM.below hB7 hrM.lt
    have hsM7 := hsM6.below hB7
    obtain ⟨bs, os, q1, d1, rfl, hbs, hcl1, hsl1⟩ := hll.first
    clear hq0 hq1 hq2 d6 hrM hsM6 HSK
    have hlen1 : (0 : Int) < ((ls.length : Int) + 1) := by omega
    go_upto_region 11 with fail
    have HPT := hidI (fun W (hW : RowKit.Below w7.heap.size w7 W) => rPart_any M pm cm l q1 d1 W (hsM7.below hW) (hsl1.1.below hW) (by have := hvM.len; omega) (by have := hst.len hvM.n1; have := hvM.n2; omega))
    obtain ⟨P, hP⟩ : ∃ P, partA M l = P := ⟨_, rfl⟩
    rw [hP] at HPT HK hvP huP hnP hall
    have HRN := hidI (fun q c W (hs : Sg 3 W edE q P.es) => rmren_any P q c W hs hvP hnP hall)
    have hml := hM7.lt
    have g0 := hM7.at 0 rfl; have g1 := hM7.at 1 rfl; have g2 := hM7.at 2 rfl
    generalize renG P = R at *
    clear hP hvM hst hll hvP huP hnP hall
    refine region_detW (by kernel_rfl) 8 [(some 47, some (.agg #[.int .i64 M.q, .int .i64 M.n, .slice pm M.es.length cm])), (some 48, some (.slice (some ⟨bs, os, none⟩) (ls.length + 1) ds)), (some 49, some (.pointer (some ⟨bs, os, none⟩))), (some 50, some (.slice q1 l.length d1)), (some 51, none), (some 52, none), (none, none), (some 3, some (.int .i64 0))]
     (fun d f W => KpV w w7 P R (d 6) (f 51) (f 52) W) (by kernel_rfl) (by kernel_rfl) (by kernel_rfl) (by kernel_rfl) ⟨fun _ => below_dN (RowKit.Below.refl _ _) 1, (fun _ _ e => by cases e), (fun _ _ e => by cases e), (fun e => by cases e)⟩ ?_ ?_
    focus
     intro i o ho a d f W hS hdi hdn hnd hdep hout hold K hK
     have hil : i < 8 := (Array.getElem?_eq_some_iff.1 ho).1
     have hcases : i = 0 ∨ i = 1 ∨ i = 2 ∨ i = 3 ∨ i = 4 ∨ i = 5 ∨ i = 6 ∨ i = 7 := by omega
     clear hil
     have u2 := hout 2 (by kernel_rfl)
     have u9 := hout 9 (by kernel_rfl)
     have u12 := hout 12 (by kernel_rfl)
     simp at u2 u9 u12
     clear hout
     rcases hcases with rfl | rfl | rfl | rfl | rfl | rfl | rfl | rfl
     ·have hb := hS.b (hnd 6 (by kernel_rfl))
      have hc0 := (hb.cell hml).trans g0
      have hc1 := (hb.cell (p := ⟨mb, 1, none⟩) hml).trans g1
      have hc2 := (hb.cell (p := ⟨mb, 2, none⟩) hml).trans g2
      (simp only [List.getElem?_toArray, List.getElem?_cons_succ, List.getElem?_cons_zero, Option.some.injEq] at ho; subst ho; simp [Region.binds] at hdep; (try go_split_ands)); go_simp; exact hK _ _ (fun u hu => Option.some.inj hu) hS
     ·(simp only [List.getElem?_toArray, List.getElem?_cons_succ, List.getElem?_cons_zero, Option.some.injEq] at ho; subst ho; simp [Region.binds] at hdep; (try go_split_ands)); go_simp; exact hK _ _ (fun u hu => Option.some.inj hu) hS
     ·(simp only [List.getElem?_toArray, List.getElem?_cons_succ, List.getElem?_cons_zero, Option.some.injEq] at ho; subst ho; simp [Region.binds] at hdep; (try go_split_ands)); go_simp; exact hK _ _ (fun u hu => Option.some.inj hu) hS
     ·have hb := hS.b (hnd 6 (by kernel_rfl))
      have hc3 := (hb.cell (p := ⟨bs, os, none⟩) hbs).trans hcl1
      (simp only [List.getElem?_toArray, List.getElem?_cons_succ, List.getElem?_cons_zero, Option.some.injEq] at ho; subst ho; simp [Region.binds] at hdep; (try go_split_ands)); go_simp; exact hK _ _ (fun u hu => Option.some.inj hu) hS
     ·have e6 := hnd 6 (by kernel_rfl)
      have h51 := (hold 4 (by kernel_rfl) _ rfl 51 rfl).1
      have h52 := (hold 5 (by kernel_rfl) _ rfl 52 rfl).1
      have h := hS
      rw [e6, h51, h52] at h
      (simp only [List.getElem?_toArray, List.getElem?_cons_succ, List.getElem?_cons_zero, Option.some.injEq] at ho; subst ho; simp [Region.binds] at hdep; (try go_split_ands))
      go_simp
      refine (HPT.out W (h.b rfl)).mono ?_
      rintro e wk ⟨pp, mp, cp, rfl, hop, hBk⟩
      obtain ⟨pp', cp', he, hsp, _, _⟩ := own_sg hop
      cases he
      have hfin := h.part (c := cp) hBk rfl hsp
      exact hK _ _ (fun u hu => by cases hu) (by
       show KpV _ _ _ _ (d 6) (some _) (f 52) wk
       rw [e6, h52]; exact hfin)
     ·have e6 := hnd 6 (by kernel_rfl)
      have h52 := (hold 5 (by kernel_rfl) _ rfl 52 rfl).1
      (simp only [List.getElem?_toArray, List.getElem?_cons_succ, List.getElem?_cons_zero, Option.some.injEq] at ho; subst ho; simp [Region.binds] at hdep; (try go_split_ands))
      obtain ⟨v, hv, hat⟩ : ∃ v, f 51 = some v ∧ a.tmps[51]? = some v := by assumption
      have h := hS
      rw [e6, h52] at h
      obtain ⟨q, c', rfl, hs⟩ := h.p rfl v hv
      clear hv
      go_simp
      refine (HRN.out q c' W hs).mono ?_
      rintro e wk ⟨pr, cr, rfl, hsr, hcr, hBk⟩
      have hfin := h.ren hBk rfl hsr hcr
      exact hK _ _ (fun u hu => by cases hu) (by
       show KpV _ _ _ _ (d 6) (f 51) (some _) wk
       rw [e6]; exact hfin)
     ·(simp only [List.getElem?_toArray, List.getElem?_cons_succ, List.getElem?_cons_zero, Option.some.injEq] at ho; subst ho; simp [Region.binds] at hdep; (try go_split_ands))
      obtain ⟨v, hv, hat⟩ : ∃ v, f 52 = some v ∧ a.tmps[52]? = some v := by assumption
      have e6 : d 6 = false := hdi
      have h := hS
      rw [e6] at h
      obtain ⟨q, c', rfl, hs, hcq⟩ := h.r rfl v hv
      have hzr := d7.below (h.b rfl) d7.lt
      have k0 := hzr.at 0 rfl; have k1 := hzr.at 1 rfl; have k2 := hzr.at 2 rfl
      have z0 := hzr.frozen 0; have z1 := hzr.frozen 1; have z2 := hzr.frozen 2
      have hfin := h.store x7 d7 hs hcq
      clear hzr h hv hs hcq
      go_simp
      exact hK undef _ (fun u hu => by cases hu) (by
       show KpV _ _ _ _ true (f 51) (f 52) _
       exact hfin)
     ·(simp only [List.getElem?_toArray, List.getElem?_cons_succ, List.getElem?_cons_zero, Option.some.injEq] at ho; subst ho; simp [Region.binds] at hdep; (try go_split_ands)); go_simp; exact hK _ _ (fun u hu => Option.some.inj hu) hS
    intro d f W9 hS hall hf
    obtain ⟨q, c', hrow, hsr, hcr, hBl⟩ := hS.o (hall 6 (by decide))
    have y0 := hrow.at 0 rfl; have y1 := hrow.at 1 rfl; have y2 := hrow.at 2 rfl
    simp only [putsD, List.filterMap_cons, List.filterMap_nil, Option.map_some, Option.map_none, Option.getD_some, Option.getD_none, List.foldl_cons, List.foldl_nil, Act.put, List.setIfInBounds_toArray, List.set_cons_zero, List.set_cons_succ]
    generalize (f 51).getD undef = v51
    generalize (f 52).getD undef = v52
    clear hf hS g0 g1 g2 hcl1
    go_wp2
    refine bodyPost_ret (v := .tuple #[(.agg #[.int .i64 R.q, .int .i64 R.n, .slice q R.es.length c']), .int .i64 0]) (by simp [results, Tryz.results14, go_sem, y0, y1, y2]) rfl ?_
    exact RetGr.of HK.out hsr hcr hBl
end
section
open Go.RowKit Go.Sort Go.Shelf
set_option maxRecDepth 100000 in
set_option maxHeartbeats 2000000 in
theorem r15Type_any (G : Gr) (p : Option Addr) (c : Nat) (w : World) (hin : Sg 3 w edE p G.es) (hl : G.es.length ≤ 9223372036854775807) :
  Calls Tryz.prog 28 #[(.agg #[.int .i64 G.q, .int .i64 G.n, .slice p G.es.length c])] w fun e w' => e = .returned (.tuple #[.int .i64 (typA G).1, .bool (typA G).2.1, .int .i64 (typA G).2.2]) ∧ RowKit.Below w.heap.size w w' := by
 obtain ⟨w0, hw0⟩ : ∃ w0, w0 = w.alloc (.cells #[.int .i64 G.q, .int .i64 G.n, .slice p G.es.length c] 24) := ⟨_, rfl⟩
 have b0 : VRow w0 w.heap.size 24 [.int .i64 G.q, .int .i64 G.n, .slice p G.es.length c] := by subst hw0; exact VRow.new w _ _
 have hB0 : RowKit.Below w.heap.size w w0 := by subst hw0; exact (RowKit.Below.refl _ _).alloc (Nat.le_refl _) _
 obtain ⟨r, hr⟩ : ∃ r, chkG G = r := ⟨_, rfl⟩
 have HCK := hidI (rCheck_r G p c w0 r hr (hin.below hB0) hl)
 have HIR := hidI (fun W (hW : RowKit.Below w0.heap.size w0 W) => r10Irr_any G p c W ((hin.below hB0).below hW) hl)
 have HCV := hidI (fun W (hW : RowKit.Below w0.heap.size w0 W) => rmCover_any G p c W ((hin.below hB0).below hW) hl)
 have f0 := b0.at 0 rfl; have f1 := b0.at 1 rfl; have f2 := b0.at 2 rfl
 by_cases hc : r = 0
 case neg =>
  have HK : Hid (typA G = (0, false, 1)) := if_pos (by rw [hr]; exact hc)
  have hrb : (r != 0) = true := by simpa using hc
  clear hc hin hr HIR HCV
  go_enter Tryz.func28, Tryz.ntmps28
  go_upto_region 1 with fail
  rw [← hw0]
  clear hw0
  go_wp2_with fail
  refine HCK.out.mono ?_
  rintro e w1 ⟨rfl, hB1⟩
  have x1 := hB0.trans (hB1.mono hB0.size)
  go_wp2
  go_ret3
  rw [HK.out]
  exact ⟨rfl, x1⟩
 ·subst hc
  have hc := hr
  have e1 : (ofA G).2 = 0 := by unfold ofA; rw [if_pos hc]
  have e2 : (decide (chkG G = 0) && irrA G) = irrA G := by rw [decide_eq_true hc, Bool.true_and]
  rw [e1, e2] at HIR
  clear e2
  cases hir : irrA G
  ·have HK : Hid (typA G = (0, false, 8)) := by unfold Hid typA; rw [if_neg (by simpa using hc), if_pos hir]
   rw [hir] at HIR
   clear hc hin e1 hir hr HCV
   go_enter Tryz.func28, Tryz.ntmps28
   go_upto_region 1 with fail
   rw [← hw0]
   clear hw0
   go_wp2_with fail
   refine HCK.out.mono ?_
   rintro e w1 ⟨rfl, hB1⟩
   have x1 := hB0.trans (hB1.mono hB0.size)
   have c0 := b0.below hB1 b0.lt
   clear f0 f1 f2 b0 HCK
   have f0 := c0.at 0 rfl; have f1 := c0.at 1 rfl; have f2 := c0.at 2 rfl
   go_wp2_with fail
   refine (HIR.out w1 hB1).mono ?_
   rintro e w2 ⟨rfl, hB2⟩
   have x2 := x1.trans (hB2.mono x1.size)
   go_wp2
   go_ret3
   rw [HK.out]
   exact ⟨rfl, x2⟩
  ·have HT : Hid (typA G = if (covA G).2 ≠ 0 then (0, false, (covA G).2) else memA (covA G).1) := by unfold Hid typA; rw [if_neg (by simpa using hc), if_neg (by simp [hir])]
   have HVG := hidI (fun h => cov_vg hc hir h)
   rw [hir] at HIR
   clear hc hin e1 hir hr
   generalize covA G = cv at *
   obtain ⟨A, k⟩ := cv
   replace HT : Hid (typA G = if k ≠ 0 then (0, false, k) else memA A) := HT
   replace HCV : Hid (∀ W, RowKit.Below w0.heap.size w0 W → Calls Tryz.prog 14 #[(.agg #[.int .i64 G.q, .int .i64 G.n, .slice p G.es.length c])] W (RetGr A k W)) := HCV
   replace HVG : Hid (k = 0 → Vg A) := HVG
   go_enter Tryz.func28, Tryz.ntmps28
   go_upto_region 1 with fail
   rw [← hw0]
   clear hw0
   go_wp2_with fail
   refine HCK.out.mono ?_
   rintro e w1 ⟨rfl, hB1⟩
   have x1 := hB0.trans (hB1.mono hB0.size)
   have c0 := b0.below hB1 b0.lt
   clear f0 f1 f2 HCK
   have f0 := c0.at 0 rfl; have f1 := c0.at 1 rfl; have f2 := c0.at 2 rfl
   go_wp2_with fail
   refine (HIR.out w1 hB1).mono ?_
   rintro e w2 ⟨rfl, hB2⟩
   have hB12 := hB1.trans (hB2.mono hB1.size)
   have x2 := x1.trans (hB2.mono x1.size)
   have c1 := c0.below hB2 c0.lt
   clear f0 f1 f2 c0 b0 HIR hB1 hB2 x1
   have f0 := c1.at 0 rfl; have f1 := c1.at 1 rfl; have f2 := c1.at 2 rfl
   go_wp2_with fail
   refine (HCV.out w2 hB12).mono ?_
   rintro e w2 ⟨pa, ca, rfl, sa, _, hB2⟩
   have x2 := x2.trans (hB2.mono x2.size)
   clear f0 f1 f2 c1 HCV
   obtain ⟨w3, hw3⟩ : ∃ w3, w3 = w2.alloc (.cells #[.int .i64 A.q, .int .i64 A.n, .slice pa A.es.length ca] 24) := ⟨_, rfl⟩
   have ra : VRow w3 w2.heap.size 24 [.int .i64 A.q, .int .i64 A.n, .slice pa A.es.length ca] := by subst hw3; exact VRow.new w2 _ _
   have hB3 : RowKit.Below w2.heap.size w2 w3 := by subst hw3; exact (RowKit.Below.refl _ _).alloc (Nat.le_refl _) _
   have x3 := x2.trans (hB3.mono x2.size)
   have sa3 := sa.below hB3
   have g0 := ra.at 0 rfl; have g1 := ra.at 1 rfl; have g2 := ra.at 2 rfl
   go_upto_region 7 with fail
   rw [← hw3]
   clear hw3
   by_cases hk : k = 0
   ·have HV := hidI (HVG.out hk)
    have HM := hidI (r15Memory_any A pa ca w3 sa3 (by have := HV.out.len; omega))
    subst hk
    have HX : Hid (typA G = memA A) := by rw [Hid, HT.out, if_neg (by simp)]
    generalize memA A = R at *
    clear HT HVG
    go_wp2_with fail
    refine HM.out.mono ?_
    rintro e w4 ⟨rfl, hB4⟩
    have x4 := x3.trans (hB4.mono x3.size)
    go_wp2
    go_ret3
    rw [HX.out]
    exact ⟨rfl, x4⟩
   ·have HX : Hid (typA G = (0, false, k)) := by rw [Hid, HT.out, if_pos hk]
    have hkb : (k != 0) = true := by simpa using hk
    clear HT HVG hk
    go_wp2
    go_ret3
    rw [HX.out]
    exact ⟨rfl, x3⟩
end
section
open Go.RowKit Go.Sort Go.Shelf Go.Lib
set_option maxRecDepth 100000 in
set_option maxHeartbeats 4000000 in
theorem lawNumbers_any (G : Gr) (p : Option Addr) (c : Nat) (w : World) (hin : Sg 3 w edE p G.es) (hl : G.es.length ≤ 9223372036854775807) :
  Calls Tryz.prog 4 #[(.agg #[.int .i64 G.q, .int .i64 G.n, .slice p G.es.length c])] w fun e w' => e = .returned (.bool true) ∧ RowKit.Below w.heap.size w w' := by
 obtain ⟨w0, hw0⟩ : ∃ w0, w0 = w.alloc (.cells #[.int .i64 G.q, .int .i64 G.n, .slice p G.es.length c] 24) := ⟨_, rfl⟩
 have b0 : VRow w0 w.heap.size 24 [.int .i64 G.q, .int .i64 G.n, .slice p G.es.length c] := by subst hw0; exact VRow.new w _ _
 have hB0 : RowKit.Below w.heap.size w w0 := by subst hw0; exact (RowKit.Below.refl _ _).alloc (Nat.le_refl _) _
 have HAW := hidI awake15_any
 have HGR := hidI (great15_any G p c w0 hl)
 have g0 := b0.at 0 rfl; have g1 := b0.at 1 rfl; have g2 := b0.at 2 rfl
 by_cases hg : gr15 G = true
 ·rw [hg] at HGR
  clear hg hin
  go_enter Tryz.func4, Tryz.ntmps4
  go_upto_region 1 with fail
  rw [← hw0]
  clear hw0
  go_wp2_with fail
  refine HGR.out.mono ?_
  rintro e w1 ⟨rfl, hB1⟩
  have x1 := hB0.trans (hB1.mono hB0.size)
  go_wp2_with fail
  refine (HAW.out w1).mono ?_
  rintro e w2 ⟨rfl, hB2⟩
  go_wp2
  go_ret
  exact ⟨rfl, x1.trans (hB2.mono x1.size)⟩
 ·have hg' : gr15 G = false := by simpa using hg
  rw [hg'] at HGR
  have HM := hidI (fun W (hW : RowKit.Below w0.heap.size w0 W) => mmMemory_any G p c W ((hin.below hB0).below hW) hl)
  have HM2 := hidI (fun W (hW : RowKit.Below w0.heap.size w0 W) => r15Memory_any G p c W ((hin.below hB0).below hW) hl)
  have HA := hidI (fun W (hW : RowKit.Below w0.heap.size w0 W) => mmAntic_any G p c W ((hin.below hB0).below hW) hl)
  have HA2 := hidI (fun W (hW : RowKit.Below w0.heap.size w0 W) => r15Antic_any G p c W ((hin.below hB0).below hW) hl)
  have HT := hidI (fun W (hW : RowKit.Below w0.heap.size w0 W) => mmType_any G p c W ((hin.below hB0).below hW) hl)
  have HT2 := hidI (fun W (hW : RowKit.Below w0.heap.size w0 W) => r15Type_any G p c W ((hin.below hB0).below hW) hl)
  clear hg hg' hin
  generalize memA G = M at *
  generalize antA G = A at *
  generalize typA G = T at *
  obtain ⟨m1, m2, m3⟩ := M
  obtain ⟨a1, a2, a3⟩ := A
  obtain ⟨t1, t2, t3⟩ := T
  have n1 : (m1 != m1) = false := by simp
  have n2 : (m2 != m2) = false := by simp
  have n3 : (m3 != m3) = false := by simp
  have n4 : (a1 != a1) = false := by simp
  have n5 : (a2 != a2) = false := by simp
  have n6 : (a3 != a3) = false := by simp
  have k1 : (t1 == t1) = true := by simp
  have k2 : (t2 == t2) = true := by simp
  have k3 : (t3 == t3) = true := by simp
  go_enter Tryz.func4, Tryz.ntmps4
  go_upto_region 1 with fail
  rw [← hw0]
  clear hw0
  go_wp2_with fail
  refine HGR.out.mono ?_
  rintro e w1 ⟨rfl, hB1⟩
  have x1 := hB1
  (clear g0 g1 g2; have c0 := b0.below x1 b0.lt; have g0 := c0.at 0 rfl; have g1 := c0.at 1 rfl; have g2 := c0.at 2 rfl; clear c0)
  go_wp2_with fail
  refine (HM.out w1 x1).mono ?_
  rintro e w2 ⟨rfl, hB2⟩
  have x2 := x1.trans (hB2.mono x1.size)
  (clear g0 g1 g2; have c0 := b0.below x2 b0.lt; have g0 := c0.at 0 rfl; have g1 := c0.at 1 rfl; have g2 := c0.at 2 rfl; clear c0)
  go_wp2_with fail
  refine (HM2.out w2 x2).mono ?_
  rintro e w3 ⟨rfl, hB3⟩
  have x3 := x2.trans (hB3.mono x2.size)
  (clear g0 g1 g2; have c0 := b0.below x3 b0.lt; have g0 := c0.at 0 rfl; have g1 := c0.at 1 rfl; have g2 := c0.at 2 rfl; clear c0)
  go_wp2_with fail
  refine (HA.out w3 x3).mono ?_
  rintro e w4 ⟨rfl, hB4⟩
  have x4 := x3.trans (hB4.mono x3.size)
  (clear g0 g1 g2; have c0 := b0.below x4 b0.lt; have g0 := c0.at 0 rfl; have g1 := c0.at 1 rfl; have g2 := c0.at 2 rfl; clear c0)
  go_wp2_with fail
  refine (HA2.out w4 x4).mono ?_
  rintro e w5 ⟨rfl, hB5⟩
  have x5 := x4.trans (hB5.mono x4.size)
  (clear g0 g1 g2; have c0 := b0.below x5 b0.lt; have g0 := c0.at 0 rfl; have g1 := c0.at 1 rfl; have g2 := c0.at 2 rfl; clear c0)
  clear hB1 hB2 hB3 hB4 hB5 x1 x2 x3 x4 HM HM2 HA HA2 HGR
  go_upto_region 9 with fail
  by_cases hs : 6 < G.n ∧ G.n ≤ 64
  ·have h6 : decide ((6 : Int) < G.n) = true := decide_eq_true hs.1
   have h64 : decide (G.n ≤ (64 : Int)) = true := decide_eq_true hs.2
   have i6 : (6 : Int) < G.n := hs.1
   have i64 : G.n ≤ (64 : Int) := hs.2
   clear hs
   go_wp2_with fail
   refine (HAW.out w5).mono ?_
   rintro e w6 ⟨rfl, hB6⟩
   have x6 := x5.trans (hB6.mono x5.size)
   go_wp2
   go_ret
   exact ⟨rfl, hB0.trans (x6.mono hB0.size)⟩
  ·have hss : decide ((6 : Int) < G.n) = false ∨ (decide ((6 : Int) < G.n) = true ∧ decide (G.n ≤ (64 : Int)) = false) := by
    by_cases h : (6 : Int) < G.n
    ·exact .inr ⟨decide_eq_true h, decide_eq_false (fun k => hs ⟨h, k⟩)⟩
    ·exact .inl (decide_eq_false h)
   clear hs
   rcases hss with h6 | ⟨h6, h64⟩
   ·have i6 : ¬ (6 : Int) < G.n := of_decide_eq_false h6
    go_wp2_with fail
    refine (HT.out w5 x5).mono ?_
    rintro e w6 ⟨rfl, hB6⟩
    have x6 := x5.trans (hB6.mono x5.size)
    (clear g0 g1 g2; have c0 := b0.below x6 b0.lt; have g0 := c0.at 0 rfl; have g1 := c0.at 1 rfl; have g2 := c0.at 2 rfl; clear c0)
    go_wp2_with fail
    refine (HT2.out w6 x6).mono ?_
    rintro e w7 ⟨rfl, hB7⟩
    have x7 := x6.trans (hB7.mono x6.size)
    clear g0 g1 g2
    go_wp2_with fail
    refine (HAW.out w7).mono ?_
    rintro e w8 ⟨rfl, hB8⟩
    have x8 := x7.trans (hB8.mono x7.size)
    go_wp2
    go_ret
    exact ⟨rfl, hB0.trans (x8.mono hB0.size)⟩
   ·have i6 : (6 : Int) < G.n := of_decide_eq_true h6
    have i64 : ¬ G.n ≤ (64 : Int) := of_decide_eq_false h64
    go_wp2_with fail
    refine (HT.out w5 x5).mono ?_
    rintro e w6 ⟨rfl, hB6⟩
    have x6 := x5.trans (hB6.mono x5.size)
    (clear g0 g1 g2; have c0 := b0.below x6 b0.lt; have g0 := c0.at 0 rfl; have g1 := c0.at 1 rfl; have g2 := c0.at 2 rfl; clear c0)
    go_wp2_with fail
    refine (HT2.out w6 x6).mono ?_
    rintro e w7 ⟨rfl, hB7⟩
    have x7 := x6.trans (hB7.mono x6.size)
    clear g0 g1 g2
    go_wp2_with fail
    refine (HAW.out w7).mono ?_
    rintro e w8 ⟨rfl, hB8⟩
    have x8 := x7.trans (hB8.mono x7.size)
    go_wp2
    go_ret
    exact ⟨rfl, hB0.trans (x8.mono hB0.size)⟩
end
section
open Go.Joins Go.ChangeShapes Go.WideShapes Go.ChangeAt Go.RowKit Go.Deep
set_option maxRecDepth 100000 in
theorem memoryNumbers_door (os : Os) (args : Array Value) : laidMetH Tryz.prog Rows.memoryNumbersRow.laid ((World.doorLaid Tryz.prog 24 os).forCall (fun _ _ => 0) ⟨#[], args, []⟩).memory :=
 laidMetH_of_parts3 (fuel := 8) (laidMet_of_run' 8 (by kernel_rfl) (by kernel_rfl)) (by kernel_rfl) (by kernel_rfl)
set_option maxRecDepth 100000 in
theorem memoryNumbers_lifted (os : Os) (started : os.Started) (H : Type) (enc : TypeId × Value → H) :
  ReturnsInHanded {} Tryz.checked os 4 .any (fun w args => (Rows.memoryNumbersSpec.pre enc Tryz.prog Tryz.f4 [] false w args ∧ laidMetH Tryz.prog Rows.memoryNumbersRow.laid w) ∧ sizedMet enc Tryz.prog Tryz.f4 (OpenSpec.ofChange Rows.memoryNumbersSpec) false w args)
   (Rows.memoryNumbersSpec.post enc Tryz.prog Tryz.f4 false true false false) := by
 refine returnsInHanded_of_change_and (C := Tryz.checked) (X := fun w _ => laidMetH Tryz.prog Rows.memoryNumbersRow.laid w) (fun _ _ _ hh h => h.of_heap hh) own started (by kernel_rfl) Tryz.func4
  (ChangeSpec.witness_shaped (enc := enc) (C := Tryz.checked) (os := os) (X := fun w _ => laidMetH Tryz.prog Rows.memoryNumbersRow.laid w) false (World.doorLaid Tryz.prog 24 os) #[.agg #[.int .i64 0, .int .i64 0, .slice none 0 0]] 8 rfl (World.shaped_of_RefB (by kernel_rfl) (by kernel_rfl)) (by kernel_rfl) (by kernel_rfl) (by kernel_rfl) (memoryNumbers_door os _)) ?_
 intro W base args ds gs before hval0 hW _ _ _ _
 have hval : ∀ (j : Nat) t v, Tryz.f4.params[j]? = some t → args[j]? = some v → Value.okWide Tryz.prog W .any base t v := hval0
 have hW' := hW
 obtain ⟨p, q, hA0, hV, rfl, hfz, hnd⟩ := hW
 have hA : DataW.TrodAll enc Tryz.prog W 0 (fun _ => true) true Tryz.f4.params.toList args.toList ds p := hA0
 rw [Tryz.params4] at hA hval
 obtain ⟨v0, d0, rfl, rfl, h0⟩ := trodAll_one hA
 obtain ⟨rfl, rfl⟩ := trodVars_none hV
 have hlt : ∀ x ∈ p, x.block < W.heap.size := fun x hx => hW'.lt x (List.mem_append_left _ (by simpa using hx))
 obtain ⟨G0, q0, c0, rfl, s0, l0⟩ := graph_in (hval 0 24 v0 rfl rfl) h0 hlt
 refine (lawNumbers_any G0 q0 c0 W s0 l0).mono fun e W' ⟨he, hB⟩ => ?_
 subst he
 refine ⟨_, rfl, law_post hW' rfl (by kernel_rfl) ?_ rfl rfl rfl hB⟩
 rw [Tryz.params4]
 intro t ht
 simp only [List.mem_cons, List.not_mem_nil, or_false] at ht
 subst ht
 ·exact readGraph
theorem memoryNumbers_holds : Rows.MemoryNumbersSaid :=
 OpenClaim.holds_of_wide 4 Tryz.f4 rfl rfl rfl rfl rfl rfl rfl ⟨rfl, rfl, rfl, rfl, rfl⟩ rfl rfl rfl rfl rfl (by kernel_rfl) Tryz.func4 (by kernel_rfl)
  (of_decide_eq_true (by kernel_rfl)) (by unfold Func.isWrapper; rw [if_neg (of_decide_eq_false (by kernel_rfl))]; exact ⟨rfl, rfl⟩)
  (fun os started H enc _ => memoryNumbers_lifted os started H enc)
theorem memoryNumbers_card : Rows.MemoryNumbersCardSaid :=
 Claim7.holds_tied_plain_at .later [] [.data, .data, .data] true _ false
  memoryNumbers_holds (fun _ h => by cases h) (by kernel_rfl) (fun _ h => by cases h) memoryNumbers_row_tie rfl ⟨rfl, rfl⟩ (by kernel_rfl) rfl
  (fun f fn hf hfn => by
   obtain rfl : f = 4 := Option.some.inj ((show Tryz.prog.funcNamed "groove/groovelaw15.MemoryNumbers" = some 4 by kernel_rfl).symm.trans hf) |>.symm
   obtain rfl : fn = Tryz.f4 := (Option.some.inj (Tryz.func4.symm.trans hfn)).symm
   exact ⟨by kernel_rfl, fun j t ht => by
    rw [Tryz.params4] at ht
    rcases j with _ | j
    ·obtain rfl : t = 24 := by simpa using ht.symm
     exact (show Tryz.prog.wantsStandIn 24 = false by kernel_rfl)
    ·simp at ht⟩)
  (by kernel_rfl)
#print axioms memoryNumbers_card
end
end Go.Proofs.YtocbhlohcikapaaGreatDoor
