/-
  Words, plain lemmas and walks, merged: Iu, Iv, Iw, Nu, Nz, Ob.
-/
import Derived.Test.YtocbhlohcikapaaGreatDoorZqo
import Derived.Test.YtocbhlohcikapaaGreatDoorZqd
import Derived.Test.YtocbhlohcikapaaGreatDoorZqb
import Derived.Test.YtocbhlohcikapaaGreatDoorZqi
import Derived.Test.YtocbhlohcikapaaGreatDoorZqn
set_option linter.unusedVariables false
set_option linter.unusedSimpArgs false
namespace Go.Proofs.YtocbhlohcikapaaGreatDoor
open Go.RowKit Go.Sort Go.Shelf Go.Lib

/-- What comes of a build from a set on. -/
def RetSets (G : Gr) (o : Option Sst) (w : World) (e : Ending) (w' : World) : Prop := RowKit.Below w.heap.size w w' ∧ match o with
  | none => e = .returned (.tuple #[.agg #[.int .i64 0, .int .i64 0, .slice none 0 0], .slice none 0 0, .bool false])
  | some r => ∃ p m c ps cs, e = .returned (.tuple #[.agg #[.int .i64 G.q, .int .i64 r.1.length, .slice p m c], .slice ps r.1.length cs, .bool true]) ∧ w'.ownsRow w.heap.size 44 3 (.slice p m c) r.2.length (cat r.2)
theorem SetJ.start (w : World) (G : Gr) (p : Option Addr) (c : Nat) (set : List Int) (q : Option Addr) (d : Nat) (hs : SlJ w q set) :
    SetJ w G p c ([set], []) [(set, (q, d))] (.slice (some ⟨w.heap.size + 3, 0, none⟩) 1 1) (.slice none 0 0)
      ((((w.alloc (.cells #[.int .i64 G.q, .int .i64 G.n, .slice p G.es.length c] 24)).alloc (.cells #[.int .i64 0, .int .i64 0, .slice none 0 0] 24)).alloc (.cells #[.int .i64 G.q, .int .i64 0, .slice none 0 0] 24)).alloc (.cells #[.slice q set.length d] 30)) := by
  have h1 : RowKit.Below w.heap.size w (((w.alloc (.cells #[.int .i64 G.q, .int .i64 G.n, .slice p G.es.length c] 24)).alloc (.cells #[.int .i64 0, .int .i64 0, .slice none 0 0] 24)).alloc (.cells #[.int .i64 G.q, .int .i64 0, .slice none 0 0] 24)) :=
    (((RowKit.Below.refl _ _).alloc (Nat.le_refl _) _).alloc (by simp) _).alloc (by simp; omega) _
  have hsz : (((w.alloc (.cells #[.int .i64 G.q, .int .i64 G.n, .slice p G.es.length c] 24)).alloc (.cells #[.int .i64 0, .int .i64 0, .slice none 0 0] 24)).alloc (.cells #[.int .i64 G.q, .int .i64 0, .slice none 0 0] 24)).heap.size = w.heap.size + 3 := by simp
  have ho := own_new (((w.alloc (.cells #[.int .i64 G.q, .int .i64 G.n, .slice p G.es.length c] 24)).alloc (.cells #[.int .i64 0, .int .i64 0, .slice none 0 0] 24)).alloc (.cells #[.int .i64 G.q, .int .i64 0, .slice none 0 0] 24)) (w.heap.size + 3) [.slice q set.length d] 30 (by rw [hsz]; omega) (by simp [maxLen])
  rw [hsz] at ho
  have hb := h1.alloc (by rw [hsz]; omega) (.cells #[.slice q set.length d] 30)
  refine ⟨(((VRow.new w _ _).alloc _).alloc _).alloc _, ((VRow.new1 w _ _ _).alloc _).alloc _, (VRow.new2 w _ _ _ _).alloc _, ⟨ho, rfl, fun x hx => ?_⟩, World.ownsRow_nil _ _ _ _, hb⟩
  obtain rfl := List.mem_singleton.1 hx
  exact (KCs.below hb).slj hs

theorem sbTo_pre (G : Gr) (set : List Int) (i : Nat) (st : Sst) : ∀ L, ∃ m, (sbTo G set i st L).1 = st.1 ++ m
  | 0 => ⟨[], by simp [sbTo]⟩
  | L + 1 => by
    obtain ⟨m, hm⟩ := sbTo_pre G set i st L
    rw [sbTo_succ]
    unfold sbAdd
    split
    · exact ⟨m, hm⟩
    · split
      · exact ⟨m, hm⟩
      · exact ⟨m ++ [_], by rw [hm, List.append_assoc]⟩
theorem sbTo_at (G : Gr) {i : Nat} {st : Sst} (h : i < st.1.length) (L : Nat) : (sbTo G st.1[i] i st L).1[i]? = some st.1[i] := by
  obtain ⟨m, hm⟩ := sbTo_pre G st.1[i] i st L
  rw [hm, List.getElem?_append_left h, List.getElem?_eq_getElem h]
theorem SetJ.look {w : World} {G : Gr} {p : Option Addr} {c : Nat} {st : Sst} {xs : List LEc} {av ev : Value} {W : World} (h : SetJ w G p c st xs av ev W) {i : Nat} {l : List Int} (hi : st.1[i]? = some l) :
    ∃ g cap q d, av = .slice (some ⟨g, 0, none⟩) st.1.length cap ∧ W.cell? ⟨g, i, none⟩ = some (.slice q l.length d) ∧ SlJ W q l ∧ g < W.heap.size := by
  have hx := h.all.len
  obtain ⟨hil, hie⟩ := List.getElem?_eq_some_iff.1 hi
  have hix : i < xs.length := by omega
  obtain ⟨g, cap, e⟩ : ∃ g cap, av = .slice (some ⟨g, 0, none⟩) xs.length cap := (own_forms h.all.own).resolve_left (fun hh => by omega)
  have h1 : (xs.map (·.1))[i]? = some l := by rw [h.all.eq]; exact hi
  rw [List.getElem?_map, List.getElem?_eq_getElem hix] at h1
  have h2 : xs[i].1 = l := Option.some.inj h1
  refine ⟨g, cap, xs[i].2.1, xs[i].2.2, by rw [e, hx], ?_, by rw [← h2]; exact h.all.sl _ (List.getElem_mem hix), (h.all.own.lt g (by rw [e]; rfl)).2⟩
  have ho := h.all.own
  rw [e] at ho
  rw [← h2]
  exact (ho.cellAt i (by omega)).trans (by simp [hix, lcV])

def tupS (t : Option Addr × Nat × Nat) : Value := .tuple #[.slice t.1 t.2.1 t.2.2, .int .i64 0]
def slS (t : Option Addr × Nat × Nat) : Value := .slice t.1 t.2.1 t.2.2
/-! ### In the midst of a step -/
structure KpR (w1 : World) (r : List Int) (f38 f31 f39 f40 f11 f12 : Option Value) (W : World) : Prop where
  b : RowKit.Below w1.heap.size w1 W
  c : ∀ v, f38 = some v → ∃ t, v = tupS t ∧ W.ownsRow w1.heap.size 3 1 (slS t) r.length (r.map (Value.int .i64))
  m : ∀ v, f31 = some v → f38 = some v
  x : ∀ v, f39 = some v → ∃ t, f38 = some (tupS t) ∧ v = slS t
  y : ∀ v, f40 = some v → v = .int .i64 0
  z : ∀ v, f11 = some v → f39 = some v
  u : ∀ v, f12 = some v → v = .int .i64 0
section
variable {w1 : World} {r : List Int} {f38 f31 f39 f40 f11 f12 : Option Value} {W W' : World} {t : Option Addr × Nat × Nat}
theorem KpR.call (h : KpR w1 r none none none f40 none f12 W) (hB : RowKit.Below W.heap.size W W') (ho : W'.ownsRow W.heap.size 3 1 (slS t) r.length (r.map (Value.int .i64))) : KpR w1 r (some (tupS t)) none none f40 none f12 W' :=
  ⟨h.b.trans (hB.mono h.b.size), fun v hv => ⟨t, by cases hv; rfl, ⟨ho.1, ho.2.imp id (fun ⟨g, cap, cur, a, b, z⟩ => ⟨g, cap, cur, a, Nat.le_trans h.b.size b, z⟩)⟩⟩, (fun _ e => by cases e), (fun _ e => by cases e), h.y, (fun _ e => by cases e), h.u⟩
theorem KpR.move {v : Value} (h : KpR w1 r (some v) f31 f39 f40 f11 f12 W) : KpR w1 r (some v) (some v) f39 f40 f11 f12 W := ⟨h.b, h.c, fun _ e => e, h.x, h.y, h.z, h.u⟩
theorem KpR.ext0 (h : KpR w1 r (some (tupS t)) f31 none f40 none f12 W) : KpR w1 r (some (tupS t)) f31 (some (slS t)) f40 none f12 W := ⟨h.b, h.c, h.m, fun v hv => ⟨t, rfl, by cases hv; rfl⟩, h.y, (fun _ e => by cases e), h.u⟩
theorem KpR.ext1 (h : KpR w1 r f38 f31 f39 f40 f11 f12 W) : KpR w1 r f38 f31 f39 (some (.int .i64 0)) f11 f12 W := ⟨h.b, h.c, h.m, h.x, fun v hv => by cases hv; rfl, h.z, h.u⟩
theorem KpR.as0 {v : Value} (h : KpR w1 r f38 f31 (some v) f40 f11 f12 W) : KpR w1 r f38 f31 (some v) f40 (some v) f12 W := ⟨h.b, h.c, h.m, h.x, h.y, fun _ e => e, h.u⟩
theorem KpR.as1 (h : KpR w1 r f38 f31 f39 f40 f11 f12 W) : KpR w1 r f38 f31 f39 f40 f11 (some (.int .i64 0)) W := ⟨h.b, h.c, h.m, h.x, h.y, h.z, fun v hv => by cases hv; rfl⟩
end

set_option maxRecDepth 100000 in
set_option maxHeartbeats 4000000 in
theorem r12sets_any (G : Gr) (p : Option Addr) (c : Nat) (set : List Int) (q : Option Addr) (d : Nat) (w : World) (hin : Sg 3 w edE p G.es) (hs : SlJ w q set) (hv : Vg G) (hc : chkS G.n none set = 0) :
    Calls Tryz.prog 178 #[(.agg #[.int .i64 G.q, .int .i64 G.n, .slice p G.es.length c]), .slice q set.length d] w (RetSets G (sbGo G 66 0 ([set], [])) w) := by
  obtain ⟨i2, hi2, hx0, hx1, hx3⟩ := info_parts infoSg
  obtain ⟨i9, hi9, hy0, hy1, hy2⟩ := info_parts infoE
  obtain ⟨wa, hwa⟩ : ∃ wa, wa = (w.alloc (.cells #[.int .i64 G.q, .int .i64 G.n, .slice p G.es.length c] 24)).alloc (.cells #[.int .i64 0, .int .i64 0, .slice none 0 0] 24) := ⟨_, rfl⟩
  have b0 : VRow wa w.heap.size 24 [.int .i64 G.q, .int .i64 G.n, .slice p G.es.length c] := by subst hwa; exact (VRow.new w _ _).alloc _
  have f0 := b0.at 0 rfl
  go_enter Tryz.func178, Tryz.ntmps178
  go_upto_region 1 with fail
  rw [← hwa]
  go_wp2_with fail
  rw [show w.heap.size + 1 + 1 = w.heap.size + 2 by omega, show w.heap.size + 2 + 1 = w.heap.size + 3 by omega]
  have hJ0 := SetJ.start w G p c set q d hs
  have hg0 : Gs G.n ([set], []) := fun s hs' => by obtain rfl := List.mem_singleton.1 hs'; exact hc
  obtain ⟨Q, hQ⟩ : ∃ Q : Nat, G.q = Q := ⟨G.q.toNat, by have := hv.q1; omega⟩
  have hQ256 : Q ≤ 256 := by have := hv.q2; omega
  have hQT : G.q.toNat = Q := by omega
  have HQ := hidI hQ; have HQT := hidI hQT; have HV := hidI hv; have HIN := hidI hin
  clear hwa b0 f0 hs hc hin hv hQ hQT
  go_loopw [8, 9] (fun av iv wr => ∃ (i : Nat) (st : Sst) (xs : List LEc) (ev : Value), iv = .int .i64 i ∧ SetJ w G p c st xs av ev wr ∧ Hid (Gs G.n st) ∧ i ≤ st.1.length ∧ st.1.length ≤ 64 ∧ st.2.length ≤ 1024 ∧ Hid (sbGo G (66 - i) i st = sbGo G 66 0 ([set], []))) (fun _ iv _ => 66 - (intOf iv).toNat)
  case atStart => exact ⟨0, _, _, _, rfl, hJ0, hg0, by simp, by simp, by simp, rfl⟩
  case round =>
    clear hJ0 hg0
    obtain ⟨i, st, xs, ev, rfl, hJ, hG, hi, h64, h1k, hgo⟩ := hrel
    have f0 := hJ.g.at 0 rfl
    rw [HQ.out] at f0
    have hlen := hJ.all.len
    obtain ⟨qa, ca, hu8, _⟩ := own_sl hJ.all.own
    rw [hlen] at hu8
    subst hu8
    by_cases hlt : i < st.1.length
    · have hltI : (i : Int) < (st.1.length : Int) := by omega
      have HAT := hidI (sbTo_at G hlt)
      have HOV := hidI (fun a => @sbGo_over G (65 - i) i a st hlt)
      have HSTEP := hidI (@sbGo_step G (65 - i) i st hlt)
      have hck := hG.out _ (List.getElem_mem hlt)
      have hgo' : Hid (sbGo G ((65 - i) + 1) i st = sbGo G 66 0 ([set], [])) := by rw [Hid, ← hgo.out, show 66 - i = (65 - i) + 1 by omega]
      have HGT := hidI (fun a => Gs.to (i := i) HV.out.n1 (set := st.1[i]) hG.out a)
      have HLE := hidI (sbTo_len (G := G) (set := st.1[i]) (i := i) (st := st) Q)
      generalize st.1[i] = l at *
      have hJ1 : SetJ w G p c (sbTo G l i st 0) xs (.slice qa st.1.length ca) ev wr := hJ
      clear hgo
      go_wp2_with fail
      clear f0
      go_loopw [8, 10] (fun av lv wx => ∃ (a : Nat) (xs : List LEc) (ev : Value), a ≤ Q ∧ lv = .int .i64 a ∧ SetJ w G p c (sbTo G l i st a) xs av ev wx ∧ (sbTo G l i st a).1.length ≤ 64 ∧ (sbTo G l i st a).2.length ≤ 1024) (fun _ lv _ => Q - (intOf lv).toNat)
      case atStart => exact ⟨0, xs, ev, by omega, rfl, hJ1, h64, h1k⟩
      case round =>
        clear hJ hJ1 h64 h1k
        obtain ⟨a, xs, ev, ha, rfl, hJ, h64, h1k⟩ := hrel
        have f0 := hJ.g.at 0 rfl
        rw [HQ.out] at f0
        by_cases hlta : a < Q
        · have hltaI : (a : Int) < (Q : Int) := by omega
          obtain ⟨ga, capa, q4, d4, rfl, e4, s4, hgl⟩ := hJ.look (HAT.out a)
          have hckl : l.length ≤ 64 := chk_len ⟨HV.out.n1, HV.out.n2⟩ hck
          have hstp : stepA G l (a : Int) = (nextA G l a, 0) := by unfold stepA; rw [if_pos (chkG_ok.2 HV.out), if_pos hck, if_neg (by have := HQ.out; omega)]
          have HS := hidI (fun W (hW : RowKit.Below wr.heap.size wr W) => rStep_any G p c l q4 d4 a W (HIN.out.below (hJ.b.trans (hW.mono hJ.b.size))) (s4.1.below hW) (by have := HV.out.len; omega) (by omega))
          rw [hstp] at HS
          have hil : i < (sbTo G l i st a).1.length := by have := HLE.out; have := (List.getElem?_eq_some_iff.1 (HAT.out a)).1; omega
          have hilI : (i : Int) < ((sbTo G l i st a).1.length : Int) := by omega
          have HADD := hidI (sbTo_succ G l i st a)
          have HGA := hidI (HGT.out a)
          have HOVa := hidI (HOV.out (a + 1) (by have := HQT.out; omega))
          have HJ1 := hidI hJ
          generalize sbTo G l i st a = st2 at *
          clear hJ hstp
          go_upto_region 9 with fail
          go_cut [11, 12] (fun s11 s12 wx => ∃ t, s11 = slS t ∧ s12 = .int .i64 0 ∧ RowKit.Below wr.heap.size wr wx ∧ wx.ownsRow wr.heap.size 3 1 (slS t) (nextA G l a).length ((nextA G l a).map (Value.int .i64)))
          case first =>
            obtain ⟨W0, rfl⟩ : ∃ W0 : World, W0 = wr := ⟨_, rfl⟩
            refine region_detW (by kernel_rfl) 12 [(some 32, some (.agg #[.int .i64 G.q, .int .i64 G.n, .slice p G.es.length c])), (some 33, some (.slice (some ⟨ga, 0, none⟩) st2.1.length capa)), (some 34, some (.int .i64 (i : Int))), (some 35, some (.pointer (some ⟨ga, i, none⟩))), (some 36, some (.slice q4 l.length d4)), (some 37, some (.int .i64 (a : Int))), (some 38, none), (some 31, none), (some 39, none), (some 40, none), (some 11, none), (some 12, none)]
              (fun d f W => KpR W0 (nextA G l a) (f 38) (f 31) (f 39) (f 40) (f 11) (f 12) W) (by kernel_rfl) (by kernel_rfl) (by kernel_rfl) (by kernel_rfl) ⟨below_dN (RowKit.Below.refl _ _) 1, (fun _ e => by cases e), (fun _ e => by cases e), (fun _ e => by cases e), (fun _ e => by cases e), (fun _ e => by cases e), (fun _ e => by cases e)⟩ ?_ ?_
            focus
              intro io o' ho av d f W hS hdi hdn hnd hdep hout hold K hK
              have hil' : io < 12 := (Array.getElem?_eq_some_iff.1 ho).1
              have hcases : io = 0 ∨ io = 1 ∨ io = 2 ∨ io = 3 ∨ io = 4 ∨ io = 5 ∨ io = 6 ∨ io = 7 ∨ io = 8 ∨ io = 9 ∨ io = 10 ∨ io = 11 := by omega
              clear hil'
              have v2 := hout 2 (by kernel_rfl)
              have v8 := hout 8 (by kernel_rfl)
              have v9 := hout 9 (by kernel_rfl)
              have v10 := hout 10 (by kernel_rfl)
              simp at v2 v8 v9 v10
              clear hout
              have JW := HJ1.out.below hS.b
              have f0 := JW.g.at 0 rfl; have f1 := JW.g.at 1 rfl; have f2 := JW.g.at 2 rfl
              have e4 := (hS.b.cell (p := (⟨ga, i, none⟩ : Addr)) hgl).trans e4
              clear JW
              rcases hcases with rfl | rfl | rfl | rfl | rfl | rfl | rfl | rfl | rfl | rfl | rfl | rfl
              all_goals (simp only [List.getElem?_toArray, List.getElem?_cons_succ, List.getElem?_cons_zero, Option.some.injEq] at ho; subst ho; simp [Region.binds] at hdep; (try go_split_ands))
              · go_simp; exact hK _ _ (fun u hu => Option.some.inj hu) hS
              · go_simp; exact hK _ _ (fun u hu => Option.some.inj hu) hS
              · go_simp; exact hK _ _ (fun u hu => Option.some.inj hu) hS
              · go_simp; exact hK _ _ (fun u hu => Option.some.inj hu) hS
              · go_simp; exact hK _ _ (fun u hu => Option.some.inj hu) hS
              · go_simp; exact hK _ _ (fun u hu => Option.some.inj hu) hS
              · have h38 := (hold 6 (by kernel_rfl) _ rfl 38 rfl).1
                have h31 := (hold 7 (by kernel_rfl) _ rfl 31 rfl).1
                have h39 := (hold 8 (by kernel_rfl) _ rfl 39 rfl).1
                have h11 := (hold 10 (by kernel_rfl) _ rfl 11 rfl).1
                go_simp
                refine (HS.out W hS.b).mono ?_
                rintro e wk ⟨pn, mn, cn, rfl, hownk, hBk⟩
                have h := hS
                rw [h38, h31, h39, h11] at h
                have hfin := KpR.call (t := (pn, mn, cn)) h hBk hownk
                exact hK _ _ (fun u hu => by cases hu) (by
                  show KpR _ _ (some _) (f 31) (f 39) (f 40) (f 11) (f 12) wk
                  rw [h31, h39, h11]; exact hfin)
              · obtain ⟨v, hv, hat⟩ : ∃ v, f 38 = some v ∧ av.tmps[38]? = some v := by assumption
                have h := hS
                rw [hv] at h
                have hfin := h.move
                go_simp
                exact hK _ _ (fun u hu => by cases hu) (by
                  show KpR _ _ (f 38) (some _) (f 39) (f 40) (f 11) (f 12) W
                  rw [hv]; exact hfin)
              · obtain ⟨v, hv, hat⟩ : ∃ v, f 31 = some v ∧ av.tmps[31]? = some v := by assumption
                have h11 := (hold 10 (by kernel_rfl) _ rfl 11 rfl).1
                have h39 := (hold 8 (by kernel_rfl) _ rfl 39 rfl).1
                have h38 := hS.m v hv
                obtain ⟨t, rfl, _⟩ := hS.c v h38
                have h := hS
                rw [h38, h39, h11] at h
                have hfin := h.ext0
                unfold tupS at hat
                go_simp
                exact hK _ _ (fun u hu => by cases hu) (by
                  show KpR _ _ (f 38) (f 31) (some _) (f 40) (f 11) (f 12) W
                  rw [h38, h11]; exact hfin)
              · obtain ⟨v, hv, hat⟩ : ∃ v, f 31 = some v ∧ av.tmps[31]? = some v := by assumption
                have h38 := hS.m v hv
                obtain ⟨t, rfl, _⟩ := hS.c v h38
                have hfin := hS.ext1
                unfold tupS at hat
                go_simp
                exact hK _ _ (fun u hu => by cases hu) hfin
              · obtain ⟨v, hv, hat⟩ : ∃ v, f 39 = some v ∧ av.tmps[39]? = some v := by assumption
                have h := hS
                rw [hv] at h
                have hfin := h.as0
                go_simp
                exact hK _ _ (fun u hu => by cases hu) (by
                  show KpR _ _ (f 38) (f 31) (f 39) (f 40) (some _) (f 12) W
                  rw [hv]; exact hfin)
              · obtain ⟨v, hv, hat⟩ : ∃ v, f 40 = some v ∧ av.tmps[40]? = some v := by assumption
                obtain rfl := hS.y v hv
                have hfin := hS.as1
                go_simp
                exact hK _ _ (fun u hu => by cases hu) hfin
            intro d f W9 hS hall hf
            obtain ⟨v11, hv11, -⟩ := hf (some 11, none) (by simp) 11 rfl
            obtain ⟨v12, hv12, -⟩ := hf (some 12, none) (by simp) 12 rfl
            have h39 := hS.z _ hv11
            obtain ⟨t, h38, rfl⟩ := hS.x _ h39
            obtain ⟨t', e', ho9⟩ := hS.c _ h38
            have htt : t = t' := by
              obtain ⟨a1, a2, a3⟩ := t
              obtain ⟨b1, b2, b3⟩ := t'
              unfold tupS at e'
              simp at e'
              simp [e']
            subst htt
            obtain rfl := hS.u _ hv12
            have hB9 := hS.b
            simp only [putsD, List.filterMap_cons, List.filterMap_nil, Option.map_some, Option.map_none, Option.getD_some, Option.getD_none, List.foldl_cons, List.foldl_nil, Act.put, List.setIfInBounds_toArray, List.set_cons_zero, List.set_cons_succ]
            rw [hv11, hv12]
            simp only [Option.getD_some]
            generalize (f 38).getD undef = v38
            generalize (f 31).getD undef = v31
            generalize (f 39).getD undef = v39
            generalize (f 40).getD undef = v40
            clear hf hv11 hv12 h39 h38 e' hS
            go_wp2_with fail
            go_meet
            exact ⟨t, rfl, rfl, hB9, ho9⟩
          case rest =>
            obtain ⟨⟨qn, mn, dn⟩, rfl, rfl, hB9, ho9⟩ := hcut
            obtain ⟨wA, rfl⟩ : ∃ wA : World, wA = wc := ⟨_, rfl⟩
            obtain ⟨q', d', heq, hsn⟩ := own_sl ho9
            have hJn : SlJ wA qn (nextA G l a) := by
              unfold slS at heq
              simp at heq
              obtain ⟨rfl, rfl, rfl⟩ := heq
              exact ⟨hsn, fun b o z hb => Lib.ownsRow_kind ho9 b (by simp [slS, hb, Value.ownBlock])⟩
            have hmn : mn = (nextA G l a).length := by unfold slS at heq; simp at heq; exact heq.2.1
            subst hmn
            have hn64 : (nextA G l a).length ≤ 64 := by have := uptof_len (nxP G.es l a) G.n.toNat; have h2 := HV.out.n2; show ((upto G.n.toNat).filter (nxP G.es l a)).length ≤ 64; omega
            have J9 := HJ1.out.below hB9
            obtain ⟨pe, ce, rfl, _, _, _⟩ := own_sg J9.es
            have HLL : Hid (LLj wA (some ⟨ga, 0, none⟩) st2.1) := by obtain ⟨q5, d5, e5, h5⟩ := J9.all.ll; cases e5; exact h5
            have HN0 : Hid (nextA G l a = [] → sbTo G l i st (a + 1) = st2) := fun h => by rw [HADD.out, sbAdd_none h]
            have HN1 : Hid (nextA G l a ≠ [] → nextA G l a ∈ st2.1 → sbTo G l i st (a + 1) = (st2.1, st2.2 ++ [⟨(i : Int), (a : Int), ((st2.1.idxOf (nextA G l a) : Nat) : Int)⟩])) := fun h h2 => by rw [HADD.out, sbAdd_old h h2]
            have HN2 : Hid (nextA G l a ≠ [] → nextA G l a ∉ st2.1 → sbTo G l i st (a + 1) = (st2.1 ++ [nextA G l a], st2.2 ++ [⟨(i : Int), (a : Int), (st2.1.length : Int)⟩])) := fun h h2 => by rw [HADD.out, sbAdd_new h h2]
            have HIX := hidI (r12index_any st2.1 (nextA G l a) (some ⟨ga, 0, none⟩) qn capa dn wA HLL.out hJn.1 (fun x hx => by have := chk_len ⟨HV.out.n1, HV.out.n2⟩ (HGA.out x hx); omega) (by omega) (by omega))
            have HJN := hidI hJn
            have HJ9 := hidI J9
            clear HS HADD ho9 hsn heq hJn J9 HJ1 HLL HGA hck e4 s4
            unfold slS
            generalize nextA G l a = nx at *
            by_cases h0 : nx = []
            · subst h0
              have HT := hidI (HN0.out rfl)
              clear HN0 HN1 HN2 HIX
              go_wp2_with fail
              go_roundw
              case rel => exact ⟨a + 1, xs, _, by omega, by go_num, by rw [HT.out]; exact HJ9.out, by rw [HT.out]; exact h64, by rw [HT.out]; exact h1k⟩
              case measure => simp [intOf]; omega
            · have hl0 : ((nx.length : Int) == 0) = false := by
                have := List.length_pos_iff.2 h0
                simpa using fun e => h0 e
              have HN1 := hidI (HN1.out h0)
              have HN2 := hidI (HN2.out h0)
              have HZ1 : Hid (nx ∈ st2.1 → idxL st2.1 nx = ((st2.1.idxOf nx : Nat) : Int)) := fun h => if_pos h
              have HZ2 : Hid (nx ∉ st2.1 → idxL st2.1 nx = -1) := fun h => if_neg h
              generalize idxL st2.1 nx = z at *
              clear HN0 h0
              go_wp2_with fail
              refine HIX.out.mono ?_
              rintro e w9 ⟨rfl, hD9⟩
              have J := HJ9.out.below (hD9.below _)
              have hJn := (KCs.below (hD9.below _)).slj HJN.out
              have hBw : RowKit.Below wr.heap.size wr w9 := hB9.trans ((hD9.below _).mono hB9.size)
              clear HIX HJ9 HJN hB9
              go_upto_if 48 with fail
              go_cut [8, 13] (fun s8 s13 wx => ∃ (S : List (List Int)) (xs' : List LEc) (k : Nat), s13 = .int .i64 (k : Int) ∧ SetJ w G p c (S, st2.2) xs' s8 (.slice pe st2.2.length ce) wx ∧ S.length ≤ 65 ∧ Hid (sbTo G l i st (a + 1) = (S, st2.2 ++ [⟨(i : Int), (a : Int), (k : Int)⟩])))
              case first =>
                by_cases hm : nx ∈ st2.1
                · have hz := HZ1.out hm
                  have HT := hidI (HN1.out hm)
                  have hzb : (z == -1) = false := by rw [hz]; simp
                  subst hz
                  clear HN1 HN2 HZ1 HZ2 hm
                  go_wp2_with fail
                  go_meet
                  exact ⟨st2.1, xs, _, rfl, J, by omega, HT⟩
                · have hz := HZ2.out hm
                  have HT := hidI (HN2.out hm)
                  subst hz
                  have hown := J.all.own
                  have hlx := J.all.len
                  rw [show xs.length = st2.1.length from hlx] at hown
                  have hownA := hown.alloc (.cells #[.slice qn nx.length dn] 30)
                  have hnew := cell_one_at w9 (.slice qn nx.length dn) 30 w9.heap.size rfl
                  have hzz := J.sz
                  have HP := hidI (fun v' W' (h1 : World.ownsRow W' (w.heap.size + 3) 30 1 v' (st2.1.length + 1) (xs.map lcV ++ [.slice qn nx.length dn])) h2 => J.push (v' := v') (W' := W') hJn (by rw [show xs.length = st2.1.length from hlx]; exact h1) h2)
                  clear HN1 HN2 HZ1 HZ2 hm hown hlx J
                  go_wp2_with (at_builtin; refine wpList_append_own _ rfl _ _ 47 rfl (w.heap.size + 3) 30 i2 (.slice none 0 0) 1 24 Tryz.underlying47 hi2 hx0 hx1 hx3 rfl (by decide) _ _ _ rfl hownA ⟨w9.heap.size, 0, none⟩ 1 1 [.slice qn nx.length dn] rfl rfl hnew (by simp [Value.oneCell']) (by simp [maxLen]; omega) (by omega) (by simp; omega) ?_; intro v' w10 hown' hgrow _)
                  go_meet
                  exact ⟨st2.1 ++ [nx], xs ++ [(nx, (qn, dn))], st2.1.length, rfl, HP.out _ _ hown' hgrow, by simp; omega, HT⟩
              case rest =>
                obtain ⟨S, xs', k, rfl, J, hS65, HT⟩ := hcut
                obtain ⟨wB, rfl⟩ : ∃ wB : World, wB = wc := ⟨_, rfl⟩
                clear HN1 HN2 HZ1 HZ2
                obtain ⟨qa, ca, hu8, _⟩ := own_sl J.all.own
                have hlx := J.all.len
                rw [show xs'.length = S.length from hlx] at hu8
                subst hu8
                have hoE : wB.ownsRow (w.heap.size + 3) 44 3 (.slice pe st2.2.length ce) st2.2.length (cat st2.2) := J.es
                have hoA := hoE.alloc (.cells (edE ⟨(i : Int), (a : Int), (k : Int)⟩).toArray 44)
                have hnew := cell_new3 wB ⟨(i : Int), (a : Int), (k : Int)⟩ 44 wB.heap.size rfl
                have k2 := J.o.at 2 rfl
                have hzz := J.sz
                have ro := J.o.alloc (.cells (edE ⟨(i : Int), (a : Int), (k : Int)⟩).toArray 44)
                have hne : ∀ j, (Value.slice pe st2.2.length ce).ownBlock = some j → w.heap.size + 3 ≤ j := fun j e => (hoE.lt j e).1
                have HE := hidI (fun v' W' h1 h2 => J.edge (y := ⟨(i : Int), (a : Int), (k : Int)⟩) (v' := v') (W' := W') h1 h2)
                clear hlx J hoE
                go_upto_region 16 with (at_builtin; refine wpList_append_own _ rfl _ _ 22 rfl (w.heap.size + 3) 44 i9 _ 3 24 Tryz.underlying22 hi9 hy0 hy1 hy2 rfl (by decide) _ _ _ rfl hoA ⟨wB.heap.size, 0, none⟩ 1 1 (cat [⟨(i : Int), (a : Int), (k : Int)⟩]) rfl rfl hnew (cat_one _) (by simp [maxLen]; omega) (by omega) (by rw [World.size_alloc]; omega) ?_; intro v' w10 hown' hgrow _; rw [← cat_app] at hown'; obtain ⟨pv, mv, cv, rfl⟩ := own_shape hown'; have r2 := VRow.grown ro hgrow (fun e => by have := hne _ e.symm; omega); have z2 := r2.frozen 2; have s2 := r2.at 2 rfl)
                have J2 : SetJ w G p c (S, st2.2 ++ [⟨(i : Int), (a : Int), (k : Int)⟩]) xs' (.slice qa S.length ca) (.slice pv mv cv) (w10.setCell ⟨w.heap.size + 2, 2, none⟩ (.slice pv mv cv)) := HE.out _ _ hown' hgrow
                obtain ⟨hmv, -⟩ := sg_len (p' := none) hown'
                rw [List.length_append, List.length_singleton] at hmv
                subst hmv
                clear hown' hgrow r2 z2 s2 ro hoA hnew k2 HE hne
                generalize w10.setCell ⟨w.heap.size + 2, 2, none⟩ (.slice pv (st2.2.length + 1) cv) = wE at *
                have o2 := J2.o.at 2 rfl
                by_cases hA : 64 < S.length
                · have hAI : (64 : Int) < (S.length : Int) := by omega
                  have HX : Hid (sbGo G 66 0 ([set], []) = none) := by rw [Hid, ← hgo'.out]; exact HOVa.out (by rw [HT.out]; exact .inl hA)
                  (have HB2 := hidI J2.b; have HR2 := hidI J2.r; have j0 := J2.r.at 0 rfl; have j1 := J2.r.at 1 rfl; have j2 := J2.r.at 2 rfl; have z0 := J2.r.frozen 0; have z1 := J2.r.frozen 1; have z2 := J2.r.frozen 2; clear J2; go_wp2; have r6 := VRow.set (i := 2) (.slice none 0 0) (VRow.set (i := 1) (.int .i64 0) (VRow.set (i := 0) (.int .i64 0) HR2.out)); have y0 := r6.at 0 rfl; have y1 := r6.at 1 rfl; have y2 := r6.at 2 rfl; refine bodyPost_ret (v := .tuple #[.agg #[.int .i64 0, .int .i64 0, .slice none 0 0], .slice none 0 0, .bool false]) (by simp [results, Tryz.results178, go_sem, y0, y1, y2]) rfl ?_; refine ⟨((HB2.out.setCell (p := ⟨w.heap.size + 1, 0, none⟩) (by simp) (.int .i64 0)).setCell (p := ⟨w.heap.size + 1, 1, none⟩) (by simp) (.int .i64 0)).setCell (p := ⟨w.heap.size + 1, 2, none⟩) (by simp) (.slice none 0 0), ?_⟩; rw [HX.out])
                · have hAI : ¬ (64 : Int) < (S.length : Int) := by omega
                  by_cases hC : 1024 < st2.2.length + 1
                  · have hCI : (1024 : Int) < ((st2.2.length : Int) + 1) := by omega
                    have HX : Hid (sbGo G 66 0 ([set], []) = none) := by rw [Hid, ← hgo'.out]; exact HOVa.out (by rw [HT.out]; right; simp; omega)
                    (have HB2 := hidI J2.b; have HR2 := hidI J2.r; have j0 := J2.r.at 0 rfl; have j1 := J2.r.at 1 rfl; have j2 := J2.r.at 2 rfl; have z0 := J2.r.frozen 0; have z1 := J2.r.frozen 1; have z2 := J2.r.frozen 2; clear J2; go_wp2; have r6 := VRow.set (i := 2) (.slice none 0 0) (VRow.set (i := 1) (.int .i64 0) (VRow.set (i := 0) (.int .i64 0) HR2.out)); have y0 := r6.at 0 rfl; have y1 := r6.at 1 rfl; have y2 := r6.at 2 rfl; refine bodyPost_ret (v := .tuple #[.agg #[.int .i64 0, .int .i64 0, .slice none 0 0], .slice none 0 0, .bool false]) (by simp [results, Tryz.results178, go_sem, y0, y1, y2]) rfl ?_; refine ⟨((HB2.out.setCell (p := ⟨w.heap.size + 1, 0, none⟩) (by simp) (.int .i64 0)).setCell (p := ⟨w.heap.size + 1, 1, none⟩) (by simp) (.int .i64 0)).setCell (p := ⟨w.heap.size + 1, 2, none⟩) (by simp) (.slice none 0 0), ?_⟩; rw [HX.out])
                  · have hCI : ¬ (1024 : Int) < ((st2.2.length : Int) + 1) := by omega
                    have HJ2 := hidI J2
                    clear J2
                    go_wp2_with fail
                    go_roundw
                    case rel => exact ⟨a + 1, xs', _, by omega, by go_num, by rw [HT.out]; exact HJ2.out, by rw [HT.out]; show S.length ≤ 64; omega, by rw [HT.out]; simp; omega⟩
                    case measure => simp [intOf]; omega
        · obtain rfl : a = Q := by omega
          have hltaI : ¬ (a : Int) < (a : Int) := by omega
          have hgo2 : Hid (sbGo G (66 - (i + 1)) (i + 1) (sbTo G l i st a) = sbGo G 66 0 ([set], [])) := by
            have h := HSTEP.out
            rw [HQT.out] at h
            rw [Hid, ← hgo'.out, h h64 h1k, show 66 - (i + 1) = 65 - i by omega]
          have hle : i + 1 ≤ (sbTo G l i st a).1.length := by have := HLE.out; omega
          have HG2 := hidI (HGT.out a)
          have HJ2 := hidI hJ
          generalize sbTo G l i st a = st2 at *
          clear hJ
          go_wp2
          go_roundw
          case rel => exact ⟨i + 1, st2, xs, ev, by go_num, HJ2.out, HG2.out, hle, h64, h1k, hgo2⟩
          case measure => simp [intOf]; omega
    · have hie : i = st.1.length := by omega
      subst hie
      have hltI : ¬ (st.1.length : Int) < (st.1.length : Int) := by omega
      have HR : Hid (sbGo G 66 0 ([set], []) = some st) := by
        rw [Hid, ← hgo.out, show 66 - st.1.length = (65 - st.1.length) + 1 by omega]
        exact sbGo_end (Nat.le_refl _)
      obtain ⟨pe, ce, rfl, _, _, _⟩ := own_sg hJ.es
      have k1 := hJ.o.at 1 rfl
      have zk := hJ.o.frozen 1
      have o1 := VRow.set (i := 1) (.int .i64 (st.1.length : Int)) hJ.o
      have rr : VRow (wr.setCell ⟨w.heap.size + 2, 1, none⟩ (.int .i64 (st.1.length : Int))) (w.heap.size + 1) 24 [.int .i64 0, .int .i64 0, .slice none 0 0] := hJ.r.other _ (by omega)
      have c0 := o1.at 0 rfl; have c1 := o1.at 1 rfl; have c2 := o1.at 2 rfl
      have j0 := rr.at 0 rfl; have j1 := rr.at 1 rfl; have j2 := rr.at 2 rfl
      have z0 := rr.frozen 0; have z1 := rr.frozen 1; have z2 := rr.frozen 2
      have r1 := VRow.set (i := 0) (.int .i64 G.q) rr
      have r2 := VRow.set (i := 1) (.int .i64 (st.1.length : Int)) r1
      have r3 := VRow.set (i := 2) (.slice pe st.2.length ce) r2
      have y0 := r3.at 0 rfl; have y1 := r3.at 1 rfl; have y2 := r3.at 2 rfl
      have HES := hidI (((KpT.set (j := 2) (v := .slice pe st.2.length ce) r2).own (by decide) ((KpT.set (j := 1) (v := .int .i64 (st.1.length : Int)) r1).own (by decide) ((KpT.set (j := 0) (v := .int .i64 G.q) rr).own (by decide) ((KpT.set (j := 1) (v := .int .i64 (st.1.length : Int)) hJ.o).own (by decide) hJ.es)))))
      have HBB := hidI ((((hJ.b.setCell (p := ⟨w.heap.size + 2, 1, none⟩) (by simp) (.int .i64 (st.1.length : Int))).setCell (p := ⟨w.heap.size + 1, 0, none⟩) (by simp) (.int .i64 G.q)).setCell (p := ⟨w.heap.size + 1, 1, none⟩) (by simp) (.int .i64 (st.1.length : Int))).setCell (p := ⟨w.heap.size + 1, 2, none⟩) (by simp) (.slice pe st.2.length ce))
      clear hJ f0 r1 r2 rr o1 hgo hG
      go_wp2
      refine bodyPost_ret (v := .tuple #[.agg #[.int .i64 G.q, .int .i64 (st.1.length : Int), .slice pe st.2.length ce], .slice qa st.1.length ca, .bool true]) (by simp [results, Tryz.results178, go_sem, y0, y1, y2]) rfl ?_
      refine ⟨HBB.out, ?_⟩
      rw [HR.out]
      exact ⟨pe, st.2.length, ce, qa, ca, rfl, (by have h := HES.out; refine ⟨h.1, h.2.imp id (fun ⟨g, cap, cur, a, b, z⟩ => ⟨g, cap, cur, a, by omega, z⟩)⟩)⟩
end Go.Proofs.YtocbhlohcikapaaGreatDoor
namespace Go.Proofs.YtocbhlohcikapaaGreatDoor
open Go.RowKit Go.Sort Go.Shelf Go.Lib

theorem sbR_none (G : Gr) : sbR G none = (⟨0, 0, []⟩, [], 4) := rfl

set_option maxRecDepth 100000 in
set_option maxHeartbeats 2000000 in
theorem r12From_any (G : Gr) (p : Option Addr) (c N : Nat) (q : Option Addr) (d : Nat) (w : World) (hin : Sg 3 w edE p G.es) (hs : SlJ w q (upto N)) (hv : Vg G) (hN : G.n = N) (h0 : 0 < N) :
    Calls Tryz.prog 129 #[(.agg #[.int .i64 G.q, .int .i64 G.n, .slice p G.es.length c]), .slice q (upto N).length d] w (RetSb (sbR G (sbGo G 66 0 ([upto N], []))) w) := by
  obtain ⟨w0, hw0⟩ : ∃ w0, w0 = (w.alloc (.cells #[.int .i64 G.q, .int .i64 G.n, .slice p G.es.length c] 24)).alloc (.cells #[.int .i64 0, .int .i64 0, .slice none 0 0] 24) := ⟨_, rfl⟩
  have b0 : VRow w0 w.heap.size 24 [.int .i64 G.q, .int .i64 G.n, .slice p G.es.length c] := by subst hw0; exact (VRow.new w _ _).alloc _
  have b1 : VRow w0 (w.heap.size + 1) 24 [.int .i64 0, .int .i64 0, .slice none 0 0] := by subst hw0; exact VRow.new1 w _ _ _
  have hB0 : RowKit.Below w.heap.size w w0 := by subst hw0; exact ((RowKit.Below.refl _ _).alloc (Nat.le_refl _) _).alloc (by simp) _
  have hN64 : N ≤ 64 := by have := hv.n2; omega
  have hlen := hv.len
  have HCK := hidI (rCheck_r G p c w0 0 (chkG_ok.2 hv) (hin.below hB0) (by omega))
  have HUC : chkS G.n none (upto N) = 0 := chkS_of (upto_srt _) (fun x hx => by have := mem_upto.1 hx; omega) (fun q h => by cases h)
  have HST := hidI (fun W (hB : RowKit.Below w.heap.size w W) => r12sets_any G p c (upto N) q d W (hin.below hB) ((KCs.below hB).slj hs) hv HUC)
  have HSL := hidI (fun W (hB : RowKit.Below w.heap.size w W) => (KCs.below hB).slj hs)
  have HU := hidI (fun (k : Nat) (h : k < (upto N).length) => upto_get h)
  have HUL := hidI (upto_len N)
  have HN := hidI hN
  generalize sbGo G 66 0 ([upto N], []) = O at *
  generalize upto N = U at *
  have hl0 : ((U.length : Int) == 0) = false := by have := HUL.out; simp; rintro rfl; simp at this; omega
  have f0 := b0.at 0 rfl; have f1 := b0.at 1 rfl; have f2 := b0.at 2 rfl
  clear hin hs hv hN HUC
  go_enter Tryz.func129, Tryz.ntmps129
  go_upto_region 1 with fail
  rw [← hw0]
  clear hw0
  go_wp2_with fail
  refine HCK.out.mono ?_
  rintro e w1 ⟨rfl, hB1⟩
  have x1 := hB0.trans (hB1.mono hB0.size)
  have c0 := b0.below hB1 b0.lt; have c1 := b1.below hB1 b1.lt
  have HB1L := hidI b1.lt
  have hB1s := hB1.size
  clear f0 f1 f2 HCK b0 b1 hB1
  go_wp2_with fail
  go_loopw [7] (fun iv wr => ∃ k : Nat, k ≤ U.length ∧ iv = .int .i64 k ∧ RowKit.Below w1.heap.size w1 wr) (fun iv _ => U.length - (intOf iv).toNat)
  case atStart => exact ⟨0, by omega, rfl, RowKit.Below.refl _ _⟩
  case round =>
    obtain ⟨k, hk, rfl, hB⟩ := hrel
    have xr := x1.trans (hB.mono x1.size)
    have xr1 : w0.heap.size ≤ wr.heap.size := Nat.le_trans hB1s hB.size
    by_cases hlt : k < U.length
    · have hltI : (k : Int) < (U.length : Int) := by omega
      have f1 := (c0.below hB c0.lt).at 1 rfl
      rw [HN.out] at f1
      obtain ⟨bu, ou, rfl, hbu, hcu⟩ := (HSL.out wr xr).1.get k hlt
      have hkN : k < N := by have := HUL.out; omega
      rcases k with _ | m
      · have e1 := hcu 0 hlt
        rw [HU.out 0 hlt, Nat.add_zero] at e1
        have e1 : wr.cell? ⟨bu, ou, none⟩ = some (.int .i64 0) := e1
        have d2 : decide ((N : Int) ≤ 0) = false := decide_eq_false (by omega)
        clear hcu
        go_wp2_with fail
        (refine wp_region_quiet_lit (by kernel_rfl) (by kernel_rfl) ?_; (repeat (first | go_big_quiet_step (fail) | quiet_step (fail))); refine wpQuiet_nil ?_; intro _ hwq; obtain ⟨nq, hwq2⟩ := hwq; subst hwq2)
        go_wp2_with fail
        (refine wp_region_quiet_lit (by kernel_rfl) (by kernel_rfl) ?_; (repeat (first | go_big_quiet_step (fail) | quiet_step (fail))); refine wpQuiet_nil ?_; intro _ hwq; obtain ⟨nq, hwq2⟩ := hwq; subst hwq2)
        go_wp2
        go_roundw
        case rel => exact ⟨0 + 1, by omega, by go_num, below_dN hB _⟩
        case measure => simp [intOf]; omega
      · have e1 := hcu (m + 1) hlt
        have e2 := hcu m (by omega)
        rw [HU.out (m + 1) hlt] at e1
        rw [HU.out m (by omega)] at e2
        have e1 : wr.cell? ⟨bu, ou + (m + 1), none⟩ = some (.int .i64 ((m : Int) + 1)) := e1
        have m0 : (0 : Int) ≤ (m : Int) := by omega
        have m1 : (m : Int) < (U.length : Int) := by omega
        have m2 : (m : Int) + 1 < (U.length : Int) := by omega
        have m3 : (0 : Int) ≤ (m : Int) + 1 := by omega
        have m4 : (0 : Int) < (m : Int) + 1 := by omega
        have q1 : IntKind.i64.wrap (m : Int) = (m : Int) := IntWalk.i64_in _ (by omega)
        have d1 : decide ((m : Int) + 1 < 0) = false := decide_eq_false (by omega)
        have d2 : decide ((N : Int) ≤ (m : Int) + 1) = false := decide_eq_false (by omega)
        have d4 : decide ((m : Int) + 1 ≤ (m : Int)) = false := decide_eq_false (by omega)
        clear hcu
        go_wp2_with fail
        (refine wp_region_quiet_lit (by kernel_rfl) (by kernel_rfl) ?_; (repeat (first | go_big_quiet_step (fail) | quiet_step (fail))); refine wpQuiet_nil ?_; intro _ hwq; obtain ⟨nq, hwq2⟩ := hwq; subst hwq2)
        go_wp2_with fail
        (refine wp_region_quiet_lit (by kernel_rfl) (by kernel_rfl) ?_; (repeat (first | go_big_quiet_step (fail) | quiet_step (fail))); refine wpQuiet_nil ?_; intro _ hwq; obtain ⟨nq, hwq2⟩ := hwq; subst hwq2)
        go_wp2
        go_roundw
        case rel => exact ⟨m + 1 + 1, by omega, by go_num, below_dN hB _⟩
        case measure => simp [intOf]; omega
    · obtain rfl : k = U.length := by omega
      have hltI : ¬ (U.length : Int) < (U.length : Int) := by omega
      have a0 := c0.below hB c0.lt; have a1 := c1.below hB c1.lt
      have f0 := a0.at 0 rfl; have f1 := a0.at 1 rfl; have f2 := a0.at 2 rfl
      have HS2 := hidI (HST.out wr xr)
      clear c0 c1 HST HU HSL hl0 hB
      go_wp2_with fail
      refine HS2.out.mono ?_
      rintro e w2 ⟨hB2, hO⟩
      have x2 := xr.trans (hB2.mono xr.size)
      have g1 := a1.below hB2 a1.lt
      clear f0 f1 f2 a0 a1
      have g1a := g1.alloc (.cells #[.int .i64 0, .int .i64 0, .slice none 0 0] 24)
      cases O with
      | none =>
        replace hO : e = _ := hO
        subst hO
        have j0 := g1a.at 0 rfl; have j1 := g1a.at 1 rfl; have j2 := g1a.at 2 rfl
        have z0 := g1a.frozen 0; have z1 := g1a.frozen 1; have z2 := g1a.frozen 2
        have x3 := x2.alloc x2.size (.cells #[.int .i64 0, .int .i64 0, .slice none 0 0] 24)
        have r6 := VRow.set (i := 2) (.slice none 0 0) (VRow.set (i := 1) (.int .i64 0) (VRow.set (i := 0) (.int .i64 0) g1a))
        have y0 := r6.at 0 rfl; have y1 := r6.at 1 rfl; have y2 := r6.at 2 rfl
        have x6 := ((x3.setCell (show w.heap.size ≤ w.heap.size + 1 by omega) (.int .i64 0) (p := ⟨w.heap.size + 1, 0, none⟩)).setCell (show w.heap.size ≤ w.heap.size + 1 by omega) (.int .i64 0) (p := ⟨w.heap.size + 1, 1, none⟩)).setCell (show w.heap.size ≤ w.heap.size + 1 by omega) (.slice none 0 0) (p := ⟨w.heap.size + 1, 2, none⟩)
        clear g1 g1a r6 x3
        go_wp2
        refine bodyPost_ret (v := .tuple #[.agg #[.int .i64 0, .int .i64 0, .slice none 0 0], .slice none 0 0, .int .i64 4]) (by simp [results, Tryz.results129, go_sem, y0, y1, y2]) rfl ?_
        exact RetSb.of (G := ⟨0, 0, []⟩) (S := []) rfl rfl (World.ownsRow_nil _ _ _ _) x6
      | some r =>
        obtain ⟨p2, m2, c2, ps, cs, rfl, hown⟩ := hO
        obtain ⟨hm2, -⟩ := sg_len (p' := none) hown
        have HMM := hidI hm2
        have hz : w.heap.size + 1 < wr.heap.size := Nat.lt_of_lt_of_le HB1L.out xr1
        obtain ⟨w3, hw3⟩ : ∃ w3, w3 = w2.alloc (.cells #[.int .i64 G.q, .int .i64 r.1.length, .slice p2 m2 c2] 24) := ⟨_, rfl⟩
        have g1b : VRow w3 (w.heap.size + 1) 24 [.int .i64 0, .int .i64 0, .slice none 0 0] := by subst hw3; exact g1.alloc _
        have hownb : w3.ownsRow wr.heap.size 44 3 (.slice p2 m2 c2) r.2.length (cat r.2) := by subst hw3; exact hown.alloc _
        have hnw : VRow w3 w2.heap.size 24 [.int .i64 G.q, .int .i64 r.1.length, .slice p2 m2 c2] := by subst hw3; exact VRow.new w2 _ _
        have x3 : RowKit.Below w.heap.size w w3 := by subst hw3; exact x2.alloc x2.size _
        have j0 := g1b.at 0 rfl; have j1 := g1b.at 1 rfl; have j2 := g1b.at 2 rfl
        have z0 := g1b.frozen 0; have z1 := g1b.frozen 1; have z2 := g1b.frozen 2
        have n0 := hnw.at 0 rfl; have n1 := hnw.at 1 rfl; have n2 := hnw.at 2 rfl
        have r6 := VRow.set (i := 2) (.slice p2 m2 c2) (VRow.set (i := 1) (.int .i64 r.1.length) (VRow.set (i := 0) (.int .i64 G.q) g1b))
        have y0 := r6.at 0 rfl; have y1 := r6.at 1 rfl; have y2 := r6.at 2 rfl
        have x6 := ((x3.setCell (show w.heap.size ≤ w.heap.size + 1 by omega) (.int .i64 G.q) (p := ⟨w.heap.size + 1, 0, none⟩)).setCell (show w.heap.size ≤ w.heap.size + 1 by omega) (.int .i64 r.1.length) (p := ⟨w.heap.size + 1, 1, none⟩)).setCell (show w.heap.size ≤ w.heap.size + 1 by omega) (.slice p2 m2 c2) (p := ⟨w.heap.size + 1, 2, none⟩)
        have o6 := ownsRow_setCell_below (a := (⟨w.heap.size + 1, 2, none⟩ : Addr)) (ownsRow_setCell_below (a := (⟨w.heap.size + 1, 1, none⟩ : Addr)) (ownsRow_setCell_below (a := (⟨w.heap.size + 1, 0, none⟩ : Addr)) hownb hz (.int .i64 G.q)) hz (.int .i64 r.1.length)) hz (.slice p2 m2 c2)
        clear g1 g1a g1b r6 x3 hown hownb hm2 hnw
        go_upto_region 13 with fail
        rw [← hw3]
        clear hw3
        go_wp2
        refine bodyPost_ret (v := .tuple #[.agg #[.int .i64 G.q, .int .i64 r.1.length, .slice p2 m2 c2], .slice ps r.1.length cs, .int .i64 0]) (by simp [results, Tryz.results129, go_sem, y0, y1, y2]) rfl ?_
        exact RetSb.of (G := ⟨G.q, (r.1.length : Int), r.2⟩) (S := r.1) rfl HMM.out (by rw [HMM.out] at o6 ⊢; exact own_downN o6 xr.size) x6
end Go.Proofs.YtocbhlohcikapaaGreatDoor
namespace Go.Proofs.YtocbhlohcikapaaGreatDoor
open Go.RowKit Go.Sort Go.Shelf Go.Lib

abbrev SbT := Option Addr × Nat × (Option Addr × Nat × Nat)
def tupB (R : Gr × List (List Int) × Int) (t : SbT) : Value := .tuple #[(.agg #[.int .i64 R.1.q, .int .i64 R.1.n, .slice t.1 R.1.es.length t.2.1]), .slice t.2.2.1 t.2.2.2.1 t.2.2.2.2, .int .i64 R.2.2]
theorem tupB_inj {R : Gr × List (List Int) × Int} {t u : SbT} (h : tupB R t = tupB R u) : t = u := by
  obtain ⟨a, b, c, d, e⟩ := t
  obtain ⟨a', b', c', d', e'⟩ := u
  unfold tupB at h
  simp at h
  simp [h]
structure KpB (w : World) (G : Gr) (p : Option Addr) (c : Nat) (U : List Int) (R : Gr × List (List Int) × Int) (d7 : Bool) (f17 f18 f19 f20 f21 f3 f4 : Option Value) (W : World) : Prop where
  b : RowKit.Below w.heap.size w W
  g : VRow W w.heap.size 24 [.int .i64 G.q, .int .i64 G.n, .slice p G.es.length c]
  s : ∀ v, f17 = some v → ∃ q d, v = .slice q U.length d ∧ SlJ W q U
  k : ∀ v, f18 = some v → ∃ t, v = tupB R t ∧ (W.ownsRow w.heap.size 44 3 (.slice t.1 R.1.es.length t.2.1) R.1.es.length (cat R.1.es))
  x : ∀ v, f19 = some v → ∃ t, f18 = some (tupB R t) ∧ v = (.agg #[.int .i64 R.1.q, .int .i64 R.1.n, .slice t.1 R.1.es.length t.2.1])
  y : ∀ v, f20 = some v → ∃ t, f18 = some (tupB R t) ∧ v = .slice t.2.2.1 t.2.2.2.1 t.2.2.2.2
  z : ∀ v, f21 = some v → v = .int .i64 R.2.2
  r0 : d7 = false → VRow W (w.heap.size + 1) 24 [.int .i64 0, .int .i64 0, .slice none 0 0]
  r1 : d7 = true → ∃ t, f18 = some (tupB R t) ∧ VRow W (w.heap.size + 1) 24 [.int .i64 R.1.q, .int .i64 R.1.n, .slice t.1 R.1.es.length t.2.1]
  a3 : ∀ v, f3 = some v → f20 = some v
  a4 : ∀ v, f4 = some v → f21 = some v
section
variable {w : World} {G : Gr} {p : Option Addr} {c : Nat} {U : List Int} {R : Gr × List (List Int) × Int} {d7 : Bool} {f17 f18 f19 f20 f21 f3 f4 : Option Value} {W W' : World} {t : SbT}
theorem KpB.below (h : KpB w G p c U R d7 f17 f18 f19 f20 f21 f3 f4 W) (hB : RowKit.Below W.heap.size W W') : KpB w G p c U R d7 f17 f18 f19 f20 f21 f3 f4 W' where
  b := h.b.trans (hB.mono h.b.size)
  g := h.g.below hB h.g.lt
  s := fun v hv => by obtain ⟨q, d, e, hs⟩ := h.s v hv; exact ⟨q, d, e, (KCs.below hB).slj hs⟩
  k := fun v hv => by obtain ⟨t, e, ho⟩ := h.k v hv; exact ⟨t, e, ho.below hB⟩
  x := h.x
  y := h.y
  z := h.z
  r0 := fun e => (h.r0 e).below hB (h.r0 e).lt
  r1 := fun e => by obtain ⟨t, h1, h2⟩ := h.r1 e; exact ⟨t, h1, h2.below hB h2.lt⟩
  a3 := h.a3
  a4 := h.a4
theorem KpB.states {v : Value} {q : Option Addr} {d : Nat} (h : KpB w G p c U R d7 none f18 f19 f20 f21 f3 f4 W) (hv : v = .slice q U.length d) (hs : SlJ W q U) : KpB w G p c U R d7 (some v) f18 f19 f20 f21 f3 f4 W :=
  { h with s := fun u hu => ⟨q, d, by cases hu; exact hv, hs⟩ }
theorem KpB.from_ {v : Value} (h : KpB w G p c U R false f17 none none none f21 f3 f4 W) (hv : v = tupB R t) (ho : (W.ownsRow w.heap.size 44 3 (.slice t.1 R.1.es.length t.2.1) R.1.es.length (cat R.1.es))) : KpB w G p c U R false f17 (some v) none none f21 f3 f4 W :=
  { h with k := fun u hu => ⟨t, by cases hu; exact hv, ho⟩, x := (fun _ e => by cases e), y := (fun _ e => by cases e), r1 := (fun e => by cases e) }
theorem KpB.e0 (h : KpB w G p c U R d7 f17 (some (tupB R t)) f19 f20 f21 f3 f4 W) : KpB w G p c U R d7 f17 (some (tupB R t)) (some (.agg #[.int .i64 R.1.q, .int .i64 R.1.n, .slice t.1 R.1.es.length t.2.1])) f20 f21 f3 f4 W :=
  { h with x := fun u hu => ⟨t, rfl, by cases hu; rfl⟩ }
theorem KpB.e1 (h : KpB w G p c U R d7 f17 (some (tupB R t)) f19 f20 f21 none f4 W) : KpB w G p c U R d7 f17 (some (tupB R t)) f19 (some (.slice t.2.2.1 t.2.2.2.1 t.2.2.2.2)) f21 none f4 W :=
  { h with y := fun u hu => ⟨t, rfl, by cases hu; rfl⟩, a3 := (fun _ e => by cases e) }
theorem KpB.e2 (h : KpB w G p c U R d7 f17 f18 f19 f20 f21 f3 none W) : KpB w G p c U R d7 f17 f18 f19 f20 (some (.int .i64 R.2.2)) f3 none W :=
  { h with z := fun u hu => by cases hu; rfl, a4 := (fun _ e => by cases e) }
theorem KpB.s3 {v : Value} (h : KpB w G p c U R d7 f17 f18 f19 (some v) f21 f3 f4 W) : KpB w G p c U R d7 f17 f18 f19 (some v) f21 (some v) f4 W := { h with a3 := fun u hu => hu }
theorem KpB.s4 {v : Value} (h : KpB w G p c U R d7 f17 f18 f19 f20 (some v) f3 f4 W) : KpB w G p c U R d7 f17 f18 f19 f20 (some v) f3 (some v) W := { h with a4 := fun u hu => hu }
theorem KpB.store (h : KpB w G p c U R false f17 (some (tupB R t)) f19 f20 f21 f3 f4 W) :
    KpB w G p c U R true f17 (some (tupB R t)) f19 f20 f21 f3 f4 (((W.setCell ⟨w.heap.size + 1, 0, none⟩ (.int .i64 R.1.q)).setCell ⟨w.heap.size + 1, 1, none⟩ (.int .i64 R.1.n)).setCell ⟨w.heap.size + 1, 2, none⟩ (.slice t.1 R.1.es.length t.2.1)) := by
  have r0 := h.r0 rfl
  have q1 := VRow.set (i := 0) (.int .i64 R.1.q) r0
  have q2 := VRow.set (i := 1) (.int .i64 R.1.n) q1
  have q3 := VRow.set (i := 2) (.slice t.1 R.1.es.length t.2.1) q2
  have k1 := KpT.set (j := 0) (v := .int .i64 R.1.q) r0
  have k2 := KpT.set (j := 1) (v := .int .i64 R.1.n) q1
  have k3 := KpT.set (j := 2) (v := .slice t.1 R.1.es.length t.2.1) q2
  exact { h with
    b := ((h.b.setCell (p := ⟨w.heap.size + 1, 0, none⟩) (by simp) _).setCell (p := ⟨w.heap.size + 1, 1, none⟩) (by simp) _).setCell (p := ⟨w.heap.size + 1, 2, none⟩) (by simp) _
    g := ((h.g.other _ (by omega)).other _ (by omega)).other _ (by omega)
    s := fun v hv => by
      obtain ⟨q, d, e, hs⟩ := h.s v hv
      exact ⟨q, d, e, k3.slj (by decide) (k2.slj (by decide) (k1.slj (by decide) hs))⟩
    k := fun v hv => by
      obtain ⟨u, e, ho⟩ := h.k v hv
      exact ⟨u, e, k3.own (by decide) (k2.own (by decide) (k1.own (by decide) ho))⟩
    r0 := (fun e => by cases e)
    r1 := fun _ => ⟨t, rfl, q3⟩ }
end
set_option maxRecDepth 100000 in
set_option maxHeartbeats 2000000 in
theorem r12Build_any (G : Gr) (p : Option Addr) (c : Nat) (w : World) (hin : Sg 3 w edE p G.es) (hl : G.es.length ≤ 9223372036854775807) :
    Calls Tryz.prog 61 #[(.agg #[.int .i64 G.q, .int .i64 G.n, .slice p G.es.length c])] w (RetSb (sbA G) w) := by
  obtain ⟨w0, hw0⟩ : ∃ w0, w0 = (w.alloc (.cells #[.int .i64 G.q, .int .i64 G.n, .slice p G.es.length c] 24)).alloc (.cells #[.int .i64 0, .int .i64 0, .slice none 0 0] 24) := ⟨_, rfl⟩
  have b0 : VRow w0 w.heap.size 24 [.int .i64 G.q, .int .i64 G.n, .slice p G.es.length c] := by subst hw0; exact (VRow.new w _ _).alloc _
  have b1 : VRow w0 (w.heap.size + 1) 24 [.int .i64 0, .int .i64 0, .slice none 0 0] := by subst hw0; exact VRow.new1 w _ _ _
  have hB0 : RowKit.Below w.heap.size w w0 := by subst hw0; exact ((RowKit.Below.refl _ _).alloc (Nat.le_refl _) _).alloc (by simp) _
  obtain ⟨r, hr⟩ : ∃ r, chkG G = r := ⟨_, rfl⟩
  have HCK := hidI (rCheck_r G p c w0 r hr (hin.below hB0) hl)
  have f0 := b0.at 0 rfl; have f1 := b0.at 1 rfl; have f2 := b0.at 2 rfl
  by_cases hr0 : r = 0
  · subst hr0
    have hv := chkG_ok.1 hr
    by_cases hn0 : G.n = 0
    · have HK : Hid (sbA G = (⟨G.q, 0, []⟩, [], 0)) := by unfold Hid sbA; rw [if_pos hr, if_pos hn0]
      have hnb : (G.n == 0) = true := by simpa using hn0
      clear hr hin hv hn0
      go_enter Tryz.func61, Tryz.ntmps61
      go_upto_region 1 with fail
      rw [← hw0]
      clear hw0
      go_wp2_with fail
      refine HCK.out.mono ?_
      rintro e w1 ⟨rfl, hB1⟩
      have x1 := hB0.trans (hB1.mono hB0.size)
      have g1 := b1.below hB1 b1.lt
      have g0 := b0.below hB1 b0.lt
      clear f0 f1 f2
      have f0 := g0.at 0 rfl; have f1 := g0.at 1 rfl
      have j0 := g1.at 0 rfl; have j1 := g1.at 1 rfl; have j2 := g1.at 2 rfl
      have z0 := g1.frozen 0; have z1 := g1.frozen 1; have z2 := g1.frozen 2
      have r6 := VRow.set (i := 2) (.slice none 0 0) (VRow.set (i := 1) (.int .i64 0) (VRow.set (i := 0) (.int .i64 G.q) g1))
      have y0 := r6.at 0 rfl; have y1 := r6.at 1 rfl; have y2 := r6.at 2 rfl
      have x6 := ((x1.setCell (show w.heap.size ≤ w.heap.size + 1 by omega) (.int .i64 G.q) (p := ⟨w.heap.size + 1, 0, none⟩)).setCell (show w.heap.size ≤ w.heap.size + 1 by omega) (.int .i64 0) (p := ⟨w.heap.size + 1, 1, none⟩)).setCell (show w.heap.size ≤ w.heap.size + 1 by omega) (.slice none 0 0) (p := ⟨w.heap.size + 1, 2, none⟩)
      clear g1 g0 r6 b0 b1
      go_wp2
      refine bodyPost_ret (v := .tuple #[.agg #[.int .i64 G.q, .int .i64 0, .slice none 0 0], .slice none 0 0, .int .i64 0]) (by simp [results, Tryz.results61, go_sem, y0, y1, y2]) rfl ?_
      rw [HK.out]
      exact RetSb.of (G := ⟨G.q, 0, []⟩) (S := []) rfl rfl (World.ownsRow_nil _ _ _ _) x6
    · have hnb : (G.n == 0) = false := by simpa using hn0
      obtain ⟨N, hN⟩ : ∃ N : Nat, G.n = N := ⟨G.n.toNat, by have := hv.n1; omega⟩
      have hNT : G.n.toNat = N := by omega
      have HK : Hid (sbA G = sbR G (sbGo G 66 0 ([upto N], []))) := by rw [Hid, sbA_ok1 hr hn0, hNT]
      have HSS := hidI (fun W => r12states_any G p c W hv)
      rw [hNT] at HSS
      have HFR := hidI (fun q d W (hB : RowKit.Below w.heap.size w W) (hs : SlJ W q (upto N)) => r12From_any G p c N q d W (hin.below hB) hs hv hN (by omega))
      generalize sbR G (sbGo G 66 0 ([upto N], [])) = R at *
      generalize upto N = U at *
      clear hr hin hv hn0 hN hNT
      go_enter Tryz.func61, Tryz.ntmps61
      go_upto_region 1 with fail
      rw [← hw0]
      clear hw0
      go_wp2_with fail
      refine HCK.out.mono ?_
      rintro e w1 ⟨rfl, hB1⟩
      have x1 := hB0.trans (hB1.mono hB0.size)
      have g1 := b1.below hB1 b1.lt
      have g0 := b0.below hB1 b0.lt
      clear f0 f1 f2 b0 b1 hB1 HCK
      have f1 := g0.at 1 rfl
      go_upto_region 5 with fail
      clear f1
      refine region_detW (by kernel_rfl) 10 [(some 15, some (.agg #[.int .i64 G.q, .int .i64 G.n, .slice p G.es.length c])), (some 16, some (.agg #[.int .i64 G.q, .int .i64 G.n, .slice p G.es.length c])), (some 17, none), (some 18, none), (some 19, none), (some 20, none), (some 21, none), (none, none), (some 3, none), (some 4, none)]
        (fun d f W => KpB w G p c U R (d 7) (f 17) (f 18) (f 19) (f 20) (f 21) (f 3) (f 4) W) (by kernel_rfl) (by kernel_rfl) (by kernel_rfl) (by kernel_rfl)
        ⟨below_dN x1 1, g0, (fun _ e => by cases e), (fun _ e => by cases e), (fun _ e => by cases e), (fun _ e => by cases e), (fun _ e => by cases e), fun _ => g1, (fun e => by cases e), (fun _ e => by cases e), (fun _ e => by cases e)⟩ ?_ ?_
      focus
        intro i o ho a d f W hS hdi hdn hnd hdep hout hold K hK
        have hil : i < 10 := (Array.getElem?_eq_some_iff.1 ho).1
        have hcases : i = 0 ∨ i = 1 ∨ i = 2 ∨ i = 3 ∨ i = 4 ∨ i = 5 ∨ i = 6 ∨ i = 7 ∨ i = 8 ∨ i = 9 := by omega
        clear hil
        have u1 := hout 1 (by kernel_rfl)
        have u2 := hout 2 (by kernel_rfl)
        simp at u1 u2
        clear hout
        have f0 := hS.g.at 0 rfl; have f1 := hS.g.at 1 rfl; have f2 := hS.g.at 2 rfl
        rcases hcases with rfl | rfl | rfl | rfl | rfl | rfl | rfl | rfl | rfl | rfl
        all_goals (simp only [List.getElem?_toArray, List.getElem?_cons_succ, List.getElem?_cons_zero, Option.some.injEq] at ho; subst ho; simp [Region.binds] at hdep; (try go_split_ands))
        · go_simp; exact hK _ _ (fun u hu => Option.some.inj hu) hS
        · go_simp; exact hK _ _ (fun u hu => Option.some.inj hu) hS
        · have h17 := (hold 2 (by kernel_rfl) _ rfl 17 rfl).1
          have h18 := (hold 3 (by kernel_rfl) _ rfl 18 rfl).1
          go_simp
          refine (HSS.out W).mono ?_
          rintro e wk ⟨q, dd, rfl, hsl, hBk⟩
          have h := hS.below hBk
          rw [h17] at h
          have hfin := h.states (v := .slice q U.length dd) rfl hsl
          exact hK _ _ (fun u hu => by cases hu) hfin
        · obtain ⟨v, hv, hat⟩ : ∃ v, f 17 = some v ∧ a.tmps[17]? = some v := by assumption
          obtain ⟨q, dd, rfl, hsl⟩ := hS.s v hv
          have h18 := (hold 3 (by kernel_rfl) _ rfl 18 rfl).1
          have h19 := (hold 4 (by kernel_rfl) _ rfl 19 rfl).1
          have h20 := (hold 5 (by kernel_rfl) _ rfl 20 rfl).1
          have e7 := hnd 7 (by kernel_rfl)
          have HV1 := hidI hv
          clear hv
          go_simp
          refine (HFR.out q dd W hS.b hsl).mono ?_
          rintro e wk ⟨p1, c1, ps, ms, cs, rfl, hown, hBk⟩
          have h := hS.below hBk
          rw [e7, h18, h19, h20] at h
          have hfin := h.from_ (t := (p1, c1, ps, ms, cs)) rfl (own_downN hown hS.b.size)
          exact hK _ _ (fun u hu => by cases hu) (by
            show KpB _ _ _ _ _ _ (d 7) (f 17) (some _) (f 19) (f 20) (f 21) (f 3) (f 4) wk
            rw [e7, h19, h20]; exact hfin)
        · obtain ⟨v, hv, hat⟩ : ∃ v, f 18 = some v ∧ a.tmps[18]? = some v := by assumption
          obtain ⟨t, rfl, _⟩ := hS.k v hv
          have h := hS
          rw [hv] at h
          have hfin := h.e0
          unfold tupB at hat
          have HV1 := hidI hv
          clear hv
          go_simp
          exact hK _ _ (fun u hu => by cases hu) (by
            show KpB _ _ _ _ _ _ (d 7) (f 17) (f 18) (some _) (f 20) (f 21) (f 3) (f 4) W
            rw [HV1.out]; exact hfin)
        · obtain ⟨v, hv, hat⟩ : ∃ v, f 18 = some v ∧ a.tmps[18]? = some v := by assumption
          obtain ⟨t, rfl, _⟩ := hS.k v hv
          have h3 := (hold 8 (by kernel_rfl) _ rfl 3 rfl).1
          have h := hS
          rw [hv, h3] at h
          have hfin := h.e1
          unfold tupB at hat
          have HV1 := hidI hv
          clear hv
          go_simp
          exact hK _ _ (fun u hu => by cases hu) (by
            show KpB _ _ _ _ _ _ (d 7) (f 17) (f 18) (f 19) (some _) (f 21) (f 3) (f 4) W
            rw [HV1.out, h3]; exact hfin)
        · obtain ⟨v, hv, hat⟩ : ∃ v, f 18 = some v ∧ a.tmps[18]? = some v := by assumption
          obtain ⟨t, rfl, _⟩ := hS.k v hv
          have h4 := (hold 9 (by kernel_rfl) _ rfl 4 rfl).1
          have h := hS
          rw [h4] at h
          have hfin := h.e2
          unfold tupB at hat
          have HV1 := hidI hv
          clear hv
          go_simp
          exact hK _ _ (fun u hu => by cases hu) (by
            show KpB _ _ _ _ _ _ (d 7) (f 17) (f 18) (f 19) (f 20) (some _) (f 3) (f 4) W
            rw [h4]; exact hfin)
        · obtain ⟨v, hv, hat⟩ : ∃ v, f 19 = some v ∧ a.tmps[19]? = some v := by assumption
          obtain ⟨t, h18, rfl⟩ := hS.x v hv
          have e7 : d 7 = false := hdi
          have h := hS
          rw [e7, h18] at h
          have hzr := h.r0 rfl
          have k0 := hzr.at 0 rfl; have k1 := hzr.at 1 rfl; have k2 := hzr.at 2 rfl
          have z0 := hzr.frozen 0; have z1 := hzr.frozen 1; have z2 := hzr.frozen 2
          have hfin := h.store
          have HV1 := hidI h18
          clear hzr h hv h18
          go_simp
          exact hK undef _ (fun u hu => by cases hu) (by
            show KpB _ _ _ _ _ _ true (f 17) (f 18) (f 19) (f 20) (f 21) (f 3) (f 4) _
            rw [HV1.out]; exact hfin)
        · obtain ⟨v, hv, hat⟩ : ∃ v, f 20 = some v ∧ a.tmps[20]? = some v := by assumption
          have h := hS
          rw [hv] at h
          have hfin := h.s3
          have HV1 := hidI hv
          clear hv
          go_simp
          exact hK _ _ (fun u hu => by cases hu) (by
            show KpB _ _ _ _ _ _ (d 7) (f 17) (f 18) (f 19) (f 20) (f 21) (some _) (f 4) W
            rw [HV1.out]; exact hfin)
        · obtain ⟨v, hv, hat⟩ : ∃ v, f 21 = some v ∧ a.tmps[21]? = some v := by assumption
          have h := hS
          rw [hv] at h
          have hfin := h.s4
          have HV1 := hidI hv
          clear hv
          go_simp
          exact hK _ _ (fun u hu => by cases hu) (by
            show KpB _ _ _ _ _ _ (d 7) (f 17) (f 18) (f 19) (f 20) (f 21) (f 3) (some _) W
            rw [HV1.out]; exact hfin)
      intro d f W9 hS hall hf
      have e7 : d 7 = true := hall 7 (by decide)
      obtain ⟨v3, hv3, -⟩ := hf (some 3, none) (by simp) 3 rfl
      obtain ⟨v4, hv4, -⟩ := hf (some 4, none) (by simp) 4 rfl
      obtain ⟨t, h18, hrow⟩ := hS.r1 e7
      obtain ⟨t', h18', rfl⟩ := hS.y _ (hS.a3 _ hv3)
      obtain rfl : t = t' := tupB_inj (Option.some.inj (h18.symm.trans h18'))
      obtain rfl := hS.z _ (hS.a4 _ hv4)
      obtain ⟨t', e', hown⟩ := hS.k _ h18
      obtain rfl := tupB_inj e'
      have y0 := hrow.at 0 rfl; have y1 := hrow.at 1 rfl; have y2 := hrow.at 2 rfl
      have hBl := hS.b
      simp only [putsD, List.filterMap_cons, List.filterMap_nil, Option.map_some, Option.map_none, Option.getD_some, Option.getD_none, List.foldl_cons, List.foldl_nil, Act.put, List.setIfInBounds_toArray, List.set_cons_zero, List.set_cons_succ]
      rw [hv3, hv4]
      simp only [Option.getD_some]
      generalize (f 17).getD undef = v17
      generalize (f 18).getD undef = v18
      generalize (f 19).getD undef = v19
      generalize (f 20).getD undef = v20
      generalize (f 21).getD undef = v21
      clear hf hv3 hv4 h18 h18' hS e'
      go_wp2
      refine bodyPost_ret (v := tupB R t) (by unfold tupB; simp [results, Tryz.results61, go_sem, y0, y1, y2]) rfl ?_
      rw [HK.out]
      exact ⟨t.1, t.2.1, t.2.2.1, t.2.2.2.1, t.2.2.2.2, rfl, hown, hBl⟩
  · have HK : Hid (sbA G = (⟨0, 0, []⟩, [], 1)) := by unfold Hid sbA; rw [if_neg (by rw [hr]; exact hr0)]
    have hrb : (r != 0) = true := by simpa using hr0
    clear hr hr0 hin
    go_enter Tryz.func61, Tryz.ntmps61
    go_upto_region 1 with fail
    rw [← hw0]
    clear hw0
    go_wp2_with fail
    refine HCK.out.mono ?_
    rintro e w1 ⟨rfl, hB1⟩
    have x1 := hB0.trans (hB1.mono hB0.size)
    have g1 := b1.below hB1 b1.lt
    have j0 := g1.at 0 rfl; have j1 := g1.at 1 rfl; have j2 := g1.at 2 rfl
    have z0 := g1.frozen 0; have z1 := g1.frozen 1; have z2 := g1.frozen 2
    have r6 := VRow.set (i := 2) (.slice none 0 0) (VRow.set (i := 1) (.int .i64 0) (VRow.set (i := 0) (.int .i64 0) g1))
    have y0 := r6.at 0 rfl; have y1 := r6.at 1 rfl; have y2 := r6.at 2 rfl
    have x6 := ((x1.setCell (show w.heap.size ≤ w.heap.size + 1 by omega) (.int .i64 0) (p := ⟨w.heap.size + 1, 0, none⟩)).setCell (show w.heap.size ≤ w.heap.size + 1 by omega) (.int .i64 0) (p := ⟨w.heap.size + 1, 1, none⟩)).setCell (show w.heap.size ≤ w.heap.size + 1 by omega) (.slice none 0 0) (p := ⟨w.heap.size + 1, 2, none⟩)
    clear f0 f1 f2 g1 r6 b0 b1
    go_wp2
    refine bodyPost_ret (v := .tuple #[.agg #[.int .i64 0, .int .i64 0, .slice none 0 0], .slice none 0 0, .int .i64 1]) (by simp [results, Tryz.results61, go_sem, y0, y1, y2]) rfl ?_
    rw [HK.out]
    exact RetSb.of (G := ⟨0, 0, []⟩) (S := []) rfl rfl (World.ownsRow_nil _ _ _ _) x6
end Go.Proofs.YtocbhlohcikapaaGreatDoor
namespace Go.Proofs.YtocbhlohcikapaaGreatDoor
open Go.RowKit Go.Sort Go.Shelf Go.Lib

/-! ### Not too long -/
theorem parA_len (G : Gr) : (parA G).1.length ≤ 64 := by
  by_cases h : chkD G = 0
  · rw [parA_ok h]
    obtain ⟨hv, _⟩ := chkD_iff.1 h
    have := hv.n2
    have h2 : (clA G).length = G.n.toNat := clsN_len _
    show (clA G).length ≤ 64
    omega
  · rw [parA_bad h]; exact Nat.zero_le _
theorem norm_lenN (l : List Ed) : (norm l).length ≤ l.length := by
  have h1 : ∀ (x : Ed) (a : List Ed), (insE x a).length ≤ a.length + 1 := by
    intro x a
    induction a with
    | nil => simp [insE]
    | cons y a ih =>
      unfold insE
      split
      · simp
      · split
        · simp
        · simp only [List.length_cons]; omega
  have h2 : ∀ (l a : List Ed), (l.foldl (fun a x => insE x a) a).length ≤ a.length + l.length := by
    intro l
    induction l with
    | nil => intro a; simp
    | cons x l ih =>
      intro a
      have := ih (insE x a)
      have := h1 x a
      simp only [List.foldl_cons, List.length_cons]; omega
  simpa [norm] using h2 l []
theorem merA_len (G : Gr) : (merA G).1.es.length ≤ G.es.length ∧ (merA G).2.1.length ≤ 64 := by
  by_cases h : chkD G = 0
  · rw [merA_ok h]
    obtain ⟨hv, _⟩ := chkD_iff.1 h
    have := hv.n2
    have h2 : (clA G).length = G.n.toNat := clsN_len _
    refine ⟨?_, show (clA G).length ≤ 64 by omega⟩
    show (mgA G).1.es.length ≤ _
    unfold mgA makeA
    split
    · have := norm_lenN (G.es.map (mgE (clA G)))
      simpa using this
    · exact Nat.zero_le _
  · rw [merA_bad h]; exact ⟨Nat.zero_le _, Nat.zero_le _⟩
theorem bfs_len {f g : List Ed} {kp is : Int × Int → Bool} {L : Nat} : ∀ (m i : Nat) (l : List Pw) (w : List Int), (∀ y ∈ l, y.2.length ≤ i) → bfs f g kp is L m i l = some w → w.length ≤ i + m
  | 0, i, l, w, _, h => by simp [bfs] at h
  | m + 1, i, l, w, hl, h => by
    unfold bfs at h
    cases hx : l[i]? with
    | none => rw [hx] at h; cases h
    | some x =>
      rw [hx] at h
      have hm : x ∈ l := List.mem_of_getElem? hx
      simp only at h
      split at h
      · cases h
        have := hl x hm; omega
      · have := bfs_len m (i + 1) _ w (bRow_lens (hl x hm) (fun y hy => by have := hl y hy; omega) L) h
        omega
theorem sepA_len (G : Gr) (s t : Int) : (sepA G s t).1.length ≤ 5000 := by
  unfold sepA
  split
  · rename_i h
    split
    · exact Nat.zero_le _
    · obtain ⟨hv, _⟩ := chkD_iff.1 h
      have hn : G.n.toNat ≤ 64 := by have := hv.n2; omega
      have hN := Nat.mul_le_mul (show G.n.toNat + 1 ≤ 65 by omega) (show G.n.toNat + 1 ≤ 65 by omega)
      cases ho : sepO G s t with
      | none => exact Nat.zero_le _
      | some w =>
        have := bfs_len _ 0 _ w (fun y hy => by obtain rfl := List.mem_singleton.1 hy; simp) ho
        show w.length ≤ 5000
        omega
  · exact Nat.zero_le _

end Go.Proofs.YtocbhlohcikapaaGreatDoor
namespace Go.Proofs.YtocbhlohcikapaaGreatDoor
open Go.RowKit Go.Sort Go.Shelf Go.Lib

theorem det13_ok {G : Gr} (h : det13A G = true) : chkD G = 0 ∧ G.es.length ≤ 20 ∧ G.n ≤ 6 := by
  unfold det13A at h
  simp only [Bool.and_eq_true, Bool.not_eq_true', decide_eq_true_iff] at h
  obtain ⟨h1, h2, h3⟩ := h
  have hc : chkG G = 0 := by
    by_cases hc : chkG G = 0
    · exact hc
    · rw [detA_bad hc] at h2; cases h2
  rw [detA_ok hc] at h3
  have hv := chkG_ok.1 hc
  refine ⟨chkD_ok hc h3, ?_⟩
  unfold gr13 at h1
  simp only [Bool.or_eq_false_iff, Bool.and_eq_false_iff, decide_eq_false_iff_not] at h1
  have := hv.n2
  omega
theorem leadsA_run {G : Gr} (hv : Vg G) (hu : Uq G.es) : ∀ (w : List Int) (x : Int), -1 ≤ x → x < G.n → Lab G.q.toNat w → leadsA G (toS x) w = toS (run1 G.es x w)
  | [], x, _, _, _ => rfl
  | b :: w, x, h1, h2, hl => by
    have hb := hl b (by simp)
    have hq := hv.q1
    have hcs : chkS G.n none (toS x) = 0 := by
      unfold toS
      split
      · rfl
      · rw [chkS_cons, if_neg (by omega)]; rfl
    have e : stepA G (toS x) b = (toS (nxt G.es x b), 0) := by
      unfold stepA
      rw [if_pos (chkG_ok.2 hv), if_pos hcs, if_neg (by omega), next_toS hv hu]
    have hn := nxt_bd hv x b
    rw [leadsA, e]
    simp only [if_true]
    rw [leadsA_run hv hu w _ hn.1 hn.2 (fun y hy => hl y (by simp [hy])), run1_cons]

theorem sl_one (w : World) (x : Int) : Sl (w.alloc (.cells #[.int .i64 x] 3)) (Value.int .i64) (some ⟨w.heap.size, 0, none⟩) [x] :=
  Sl.of_vrow (l := [x]) (VRow.new w 3 [.int .i64 x])
theorem sl_one_drew (w : World) (x : Int) : Sl (w.alloc (.cells #[.int .i64 x] 3)).drew (Value.int .i64) (some ⟨w.heap.size, 0, none⟩) [x] := sl_one w x
theorem two_sl (w : World) (x y : Int) : RowKit.Below w.heap.size w ((w.alloc (.cells #[.int .i64 x] 3)).alloc (.cells #[.int .i64 y] 3)).drew ∧
    Sl ((w.alloc (.cells #[.int .i64 x] 3)).alloc (.cells #[.int .i64 y] 3)).drew (Value.int .i64) (some ⟨w.heap.size, 0, none⟩) [x] ∧
    Sl ((w.alloc (.cells #[.int .i64 x] 3)).alloc (.cells #[.int .i64 y] 3)).drew (Value.int .i64) (some ⟨w.heap.size + 1, 0, none⟩) [y] := by
  refine ⟨(((RowKit.Below.refl _ _).alloc (Nat.le_refl _) _).alloc (by simp) _).drew, ?_, ?_⟩
  · have h : Sl ((w.alloc (.cells #[.int .i64 x] 3)).alloc (.cells #[.int .i64 y] 3)) (Value.int .i64) (some ⟨w.heap.size, 0, none⟩) [x] := (sl_one w x).below ((RowKit.Below.refl _ _).alloc (Nat.le_refl _) _)
    exact h
  · have h := sl_one_drew (w.alloc (.cells #[.int .i64 x] 3)) y
    rw [World.size_alloc] at h
    exact h
end Go.Proofs.YtocbhlohcikapaaGreatDoor
namespace Go.Proofs.YtocbhlohcikapaaGreatDoor
open Go.RowKit

theorem mxC_ge : ∀ {l : List Int} {x : Int}, x ∈ l → x + 1 ≤ mxC l := by
  have key : ∀ (l : List Int) (a : Int), a ≤ l.foldl (fun n x => max n (x + 1)) a ∧ ∀ x ∈ l, x + 1 ≤ l.foldl (fun n x => max n (x + 1)) a := by
    intro l
    induction l with
    | nil => intro a; exact ⟨Int.le_refl _, fun x hx => by cases hx⟩
    | cons y l ih =>
      intro a
      obtain ⟨h1, h2⟩ := ih (max a (y + 1))
      refine ⟨by simp only [List.foldl_cons]; omega, fun x hx => ?_⟩
      simp only [List.foldl_cons]
      rcases List.mem_cons.1 hx with rfl | hx
      · omega
      · exact h2 x hx
  intro l x hx
  exact (key l 0).2 x hx
theorem mxC_le {l : List Int} {b : Int} (hb : 0 ≤ b) (h : ∀ x ∈ l, x + 1 ≤ b) : mxC l ≤ b := by
  have key : ∀ (l : List Int) (a : Int), a ≤ b → (∀ x ∈ l, x + 1 ≤ b) → l.foldl (fun n x => max n (x + 1)) a ≤ b := by
    intro l
    induction l with
    | nil => intro a h _; exact h
    | cons y l ih =>
      intro a ha h
      have := h y (by simp)
      exact ih _ (show max a (y + 1) ≤ b by omega) (fun x hx => h x (by simp [hx]))
  exact key l 0 hb h
theorem mxC_nn (l : List Int) : 0 ≤ mxC l := by
  cases l with
  | nil => exact Int.le_refl _
  | cons x l =>
    have key : ∀ (l : List Int) (a : Int), a ≤ l.foldl (fun n x => max n (x + 1)) a := by
      intro l
      induction l with
      | nil => intro a; exact Int.le_refl _
      | cons y l ih => intro a; have := ih (max a (y + 1)); simp only [List.foldl_cons]; omega
    exact key _ 0
theorem frs_num {R : Nat → Nat → Bool} : ∀ (n k : Nat), k < (frsR R n).length → ∃ s, s < n ∧ numR R s = k
  | 0, k, h => by simp [frsR] at h
  | n + 1, k, h => by
    by_cases hk : k < (frsR R n).length
    · obtain ⟨s, h1, h2⟩ := frs_num n k hk
      exact ⟨s, by omega, h2⟩
    · cases hf : fstR R n
      · rw [frsR_stay hf] at h; exact absurd h hk
      · rw [frsR_go hf, List.length_append, List.length_singleton] at h
        exact ⟨n, by omega, by rw [numR_new hf]; omega⟩
/-- The classes' numbers: from 0 on, without a gap. -/
theorem cl_num {G : Gr} {s : Nat} (hs : s < G.n.toNat) : cg (clA G) s = numR (eqA (clA G)) s := by
  have h : clA G = (List.range G.n.toNat).map (numR (eqA (clA G))) := canon (q := G.q.toNat) (n := G.n.toNat) (es := G.es) G.n.toNat
  conv => lhs; rw [h]
  exact cg_map _ hs
theorem cl_mem {G : Gr} {s : Nat} (hs : s < G.n.toNat) : cg (clA G) s ∈ clA G := by
  have hl : (clA G).length = G.n.toNat := clsN_len _
  have e : cg (clA G) s = (clA G)[s]'(by omega) := by unfold cg; simp [List.getD, hl, hs]
  rw [e]; exact List.getElem_mem _
theorem cl_lt {G : Gr} {s : Nat} (hs : s < G.n.toNat) : 0 ≤ cg (clA G) s ∧ cg (clA G) s < mxC (clA G) := by
  have h1 := cl_bd _ (cl_mem hs)
  have h2 := mxC_ge (cl_mem hs)
  omega
theorem cl_le {G : Gr} : mxC (clA G) ≤ G.n.toNat := mxC_le (by omega) (fun x hx => by have := cl_bd x hx; omega)
theorem cl_onto {G : Gr} {k : Nat} (hk : (k : Int) < mxC (clA G)) : ∃ s, s < G.n.toNat ∧ cg (clA G) s = k := by
  have h1 : mxC (clA G) ≤ ((frsR (eqA (clA G)) G.n.toNat).length : Int) := mxC_le (by omega) (fun x hx => by
    obtain ⟨s, hs, rfl⟩ := List.mem_iff_getElem.1 hx
    have hl : (clA G).length = G.n.toNat := clsN_len _
    have hs2 : s < G.n.toNat := by omega
    have e : cg (clA G) s = (clA G)[s]'hs := by unfold cg; simp [List.getD, hs]
    have h3 := numR_bd (eqA_eqv (clA G)) s G.n.toNat hs2
    rw [← cl_num hs2, e] at h3
    omega)
  obtain ⟨s, hs, h2⟩ := frs_num (R := eqA (clA G)) G.n.toNat k (by omega)
  exact ⟨s, hs, by rw [cl_num hs, h2]⟩
theorem cl_step {G : Gr} {r s a : Nat} (hr : r < G.n.toNat) (hs : s < G.n.toNat) (ha : a < G.q.toNat) (h : cg (clA G) r = cg (clA G) s) :
    (tgt G.es r a < 0 ↔ tgt G.es s a < 0) ∧ (0 ≤ tgt G.es r a → cg (clA G) (tgt G.es r a) = cg (clA G) (tgt G.es s a)) := by
  have h2 : relA G.q.toNat G.es (clA G) r s = true := by
    have := eqA_succ (q := G.q.toNat) (n := G.n.toNat) (es := G.es) G.n.toNat hr hs
    rw [cls_fix] at this
    show relA G.q.toNat G.es (clsN G.q.toNat G.n.toNat G.es G.n.toNat) r s = true
    rw [← this]
    unfold eqA
    rw [decide_eq_true_iff]; exact h
  exact (relA_iff.1 h2).2 a ha

/-! ### The merged graph -/
def mgG (G : Gr) : Gr := ⟨G.q, mxC (clA G), norm (G.es.map (mgE (clA G)))⟩
theorem mem_mg {G : Gr} {y : Ed} : y ∈ (mgG G).es ↔ ∃ x ∈ G.es, mgE (clA G) x = y := by
  show y ∈ norm _ ↔ _
  rw [mem_norm, List.mem_map]
theorem nat_of {z : Int} (h : 0 ≤ z) : ∃ n : Nat, z = n := ⟨z.toNat, by omega⟩
section
variable {G : Gr}
theorem mg_vg (hv : Vg G) : Vg (mgG G) where
  q1 := hv.q1
  q2 := hv.q2
  n1 := mxC_nn _
  n2 := by
    have := cl_le (G := G); have := hv.n2; have := hv.n1
    show mxC (clA G) ≤ 64
    omega
  len := by
    have h := norm_lenN (G.es.map (mgE (clA G)))
    rw [List.length_map] at h
    exact Nat.le_trans h hv.len
  ins := fun y hy => by
    obtain ⟨x, hx, rfl⟩ := mem_mg.1 hy
    obtain ⟨h1, h2, h3, h4, h5, h6⟩ := hv.ins x hx
    obtain ⟨f, hf⟩ := nat_of h1
    obtain ⟨t, ht⟩ := nat_of h3
    have e1 := cl_lt (G := G) (s := f) (by omega)
    have e2 := cl_lt (G := G) (s := t) (by omega)
    show 0 ≤ cg (clA G) x.f ∧ 0 ≤ x.l ∧ 0 ≤ cg (clA G) x.t ∧ cg (clA G) x.f < mxC (clA G) ∧ cg (clA G) x.t < mxC (clA G) ∧ x.l < G.q
    rw [hf, ht]
    exact ⟨e1.1, h2, e2.1, e1.2, e2.2, h6⟩
  srt := norm_srt _
theorem mg_eq (hv : Vg G) : mgA G = (mgG G, 0) := makeA_ok (chkG_ok.2 (mg_vg hv))
/-- Where an edge of the merged graph leads. -/
theorem mg_edge (hv : Vg G) (hu : Uq G.es) {x : Ed} (hx : x ∈ G.es) {s : Nat} (hs : s < G.n.toNat) (h : cg (clA G) x.f = cg (clA G) s) : 0 ≤ tgt G.es s x.l ∧ cg (clA G) x.t = cg (clA G) (tgt G.es s x.l) := by
  obtain ⟨h1, h2, h3, h4, h5, h6⟩ := hv.ins x hx
  obtain ⟨f, hf⟩ := nat_of h1
  obtain ⟨a, ha⟩ := nat_of h2
  have e := tgt_at hu hx
  rw [hf, ha] at e
  rw [hf] at h
  obtain ⟨k1, k2⟩ := cl_step (G := G) (r := f) (s := s) (a := a) (by omega) hs (by omega) h
  rw [e] at k1 k2
  rw [ha]
  refine ⟨?_, k2 h3⟩
  by_cases h0 : tgt G.es (s : Int) (a : Int) < 0
  · have := k1.2 h0; omega
  · omega
theorem mg_uq (hv : Vg G) (hu : Uq G.es) {x y : Ed} (hx : x ∈ (mgG G).es) (hy : y ∈ (mgG G).es) (hf : x.f = y.f) (hl : x.l = y.l) : x = y := by
  obtain ⟨a, ha, rfl⟩ := mem_mg.1 hx
  obtain ⟨b, hb, rfl⟩ := mem_mg.1 hy
  have hf : cg (clA G) a.f = cg (clA G) b.f := hf
  have hl : a.l = b.l := hl
  obtain ⟨h1, h2, h3, h4, h5, h6⟩ := hv.ins b hb
  obtain ⟨f, hf2⟩ := nat_of h1
  rw [hf2] at hf
  have e := mg_edge hv hu ha (s := f) (by omega) hf
  have e2 := tgt_at hu hb
  rw [hf2] at e2
  rw [hl, e2] at e
  show (⟨cg (clA G) a.f, a.l, cg (clA G) a.t⟩ : Ed) = ⟨cg (clA G) b.f, b.l, cg (clA G) b.t⟩
  rw [hf, hf2, hl, e.2]
theorem mg_det (hv : Vg G) (hu : Uq G.es) : detB (mgG G).es = true := detB_t (fun k hk ⟨h1, h2⟩ => by
  have e := mg_uq hv hu (List.getElem_mem (by omega : k < (mgG G).es.length)) (List.getElem_mem hk) h1 h2
  have h := List.pairwise_iff_getElem.1 (mg_vg hv).srt k (k + 1) (by omega) hk (by omega)
  rw [e, ltE_irrefl] at h; cases h)
theorem mg_chk (hv : Vg G) (hu : Uq G.es) : chkD (mgG G) = 0 := chkD_iff.2 ⟨mg_vg hv, mg_det hv hu⟩
theorem mg_uq' (hv : Vg G) (hu : Uq G.es) : Uq (mgG G).es := uq_det (mg_vg hv) (mg_det hv hu)
theorem mg_tgt (hv : Vg G) (hu : Uq G.es) {s : Nat} (hs : s < G.n.toNat) (a : Int) : tgt (mgG G).es (cg (clA G) s) a = if tgt G.es s a < 0 then -1 else cg (clA G) (tgt G.es s a) := by
  by_cases h0 : tgt G.es s a < 0
  · rw [if_pos h0]
    by_cases h1 : tgt (mgG G).es (cg (clA G) s) a = -1
    · exact h1
    · obtain ⟨y, hy, hf, hl, _⟩ := tgt_mem h1
      obtain ⟨x, hx, rfl⟩ := mem_mg.1 hy
      have hf : cg (clA G) x.f = cg (clA G) s := hf
      have hl : x.l = a := hl
      have := (mg_edge hv hu hx hs hf).1
      rw [hl] at this; omega
  · rw [if_neg h0]
    obtain ⟨x, hx, hf, hl, ht⟩ := tgt_mem (es := G.es) (s := s) (a := a) (by omega)
    have h := tgt_at (mg_uq' hv hu) (mem_mg.2 ⟨x, hx, rfl⟩)
    change tgt (mgG G).es (cg (clA G) x.f) x.l = cg (clA G) x.t at h
    rw [hf, hl, ht] at h
    exact h
theorem mg_run (hv : Vg G) (hu : Uq G.es) : ∀ (w : List Int) {s : Nat}, s < G.n.toNat → (run1 (mgG G).es (cg (clA G) s) w < 0 ↔ run1 G.es s w < 0)
  | [], s, hs => by
    have := (cl_lt hs).1
    show (cg (clA G) s < 0 ↔ (s : Int) < 0)
    omega
  | a :: w, s, hs => by
    have h0 := (cl_lt hs).1
    rw [run1_cons, run1_cons, nxt_pos (by omega), nxt_pos (by omega), mg_tgt hv hu hs]
    have hb := tgt_bd hv s a
    by_cases h1 : tgt G.es s a < 0
    · rw [if_pos h1]
      have e1 := run1_neg (es := (mgG G).es) w (s := -1) (by omega)
      have e2 := run1_neg (es := G.es) w h1
      exact ⟨fun _ => e2, fun _ => e1⟩
    · rw [if_neg h1]
      obtain ⟨t, ht⟩ := nat_of (show 0 ≤ tgt G.es s a by omega)
      rw [ht] at hb ⊢
      have := hv.n1
      exact mg_run hv hu w (by omega)
/-- Each state of the merged graph is a class of its own. -/
theorem mg_inj (hv : Vg G) (hu : Uq G.es) {c d : Nat} (hc : c < (mgG G).n.toNat) (hd : d < (mgG G).n.toNat) (h : cg (clA (mgG G)) c = cg (clA (mgG G)) d) : c = d := by
  have hn : (mgG G).n = mxC (clA G) := rfl
  have hb : ∀ s a, tgt (mgG G).es s a < ((mgG G).n.toNat : Int) := fun s a => by rcases tgt_lt (mg_vg hv) s a with h | h <;> omega
  have hb2 : ∀ s a, tgt G.es s a < (G.n.toNat : Int) := fun s a => by
    obtain ⟨s', hs', _⟩ := cl_onto (G := G) (k := c) (by omega)
    rcases tgt_lt hv s a with h | h <;> omega
  obtain ⟨s, hs, e1⟩ := cl_onto (G := G) (k := c) (by omega)
  obtain ⟨t, ht, e2⟩ := cl_onto (G := G) (k := d) (by omega)
  have k1 := cls_agree (q := (mgG G).q.toNat) hb hc hd h
  have k2 : cg (clA G) s = cg (clA G) t := cls_of_agree (q := G.q.toNat) hb2 G.n.toNat hs ht (fun w hw => by
    have h1 := mg_run hv hu w hs
    have h2 := mg_run hv hu w ht
    have h3 := k1 w hw
    rw [e1] at h1
    rw [e2] at h2
    exact h1.symm.trans (h3.trans h2))
  omega
theorem mg_cl (hv : Vg G) (hu : Uq G.es) : clA (mgG G) = upto (mgG G).n.toNat := by
  have hcn : clA (mgG G) = (List.range (mgG G).n.toNat).map (numR (eqA (clA (mgG G)))) := canon (q := (mgG G).q.toNat) (n := (mgG G).n.toNat) (es := (mgG G).es) (mgG G).n.toNat
  rw [hcn]
  unfold upto
  apply List.map_congr_left
  intro s hs
  have hs : s < (mgG G).n.toNat := by simpa using hs
  rw [numR_congr (R' := fun _ _ => false) hs (fun u hu2 t ht => by
    show decide (cg (clA (mgG G)) t = cg (clA (mgG G)) u) = false
    rw [decide_eq_false_iff_not]
    intro e
    have := mg_inj hv hu (by omega) hu2 e
    omega)]
  have hf : ∀ x, fstR (fun _ _ => false) x = true := fun x => fstR_iff.2 (fun _ _ => rfl)
  rw [numR_new (hf s)]
  have : frsR (fun _ _ => false) s = List.range s := List.filter_eq_self.2 (fun x _ => hf x)
  rw [this, List.length_range]
theorem mxC_upto : ∀ n : Nat, mxC (upto n) = n
  | 0 => rfl
  | n + 1 => by rw [upto_succ, mxC_snoc, mxC_upto n]; omega
theorem cg_upto {n s : Nat} (h : s < n) : cg (upto n) s = s := cg_map (fun (i : Nat) => (i : Int)) h
theorem mg_again (hv : Vg G) (hu : Uq G.es) : merA (mgG G) = (mgG G, upto (mgG G).n.toNat, 0) := by
  have hm : (mgG G).es.map (mgE (upto (mgG G).n.toNat)) = (mgG G).es := by
    conv => rhs; rw [← List.map_id (mgG G).es]
    apply List.map_congr_left
    intro x hx
    obtain ⟨h1, h2, h3, h4, h5, h6⟩ := (mg_vg hv).ins x hx
    obtain ⟨f, hf⟩ := nat_of h1
    obtain ⟨t, ht⟩ := nat_of h3
    have e1 : cg (upto (mgG G).n.toNat) x.f = x.f := by rw [hf]; exact cg_upto (by omega)
    have e2 : cg (upto (mgG G).n.toNat) x.t = x.t := by rw [ht]; exact cg_upto (by omega)
    show (⟨cg (upto (mgG G).n.toNat) x.f, x.l, cg (upto (mgG G).n.toNat) x.t⟩ : Ed) = x
    rw [e1, e2]
  have hmg : mgA (mgG G) = (mgG G, 0) := by
    unfold mgA
    rw [mg_cl hv hu, hm, mxC_upto]
    have hn := (mg_vg hv).n1
    have e : makeA (mgG G).q ((mgG G).n.toNat : Int) (mgG G).es = makeA (mgG G).q (mgG G).n (mgG G).es := by rw [Int.toNat_of_nonneg hn]
    rw [e]
    have hns := norm_of_srt (mg_vg hv).srt
    have hck : chkG ⟨(mgG G).q, (mgG G).n, norm (mgG G).es⟩ = 0 := by rw [hns]; exact chkG_ok.2 (mg_vg hv)
    rw [makeA_ok hck, hns]
  rw [merA_ok (mg_chk hv hu), hmg, mg_cl hv hu]
end
end Go.Proofs.YtocbhlohcikapaaGreatDoor
