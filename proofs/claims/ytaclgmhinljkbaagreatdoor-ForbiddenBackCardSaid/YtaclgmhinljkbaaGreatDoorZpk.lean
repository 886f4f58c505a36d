/-
  Words, plain lemmas and walks, merged: Ed, ShelfI, Ee, Builder, Ef, Dt.
-/
import Derived.Test.YtaclgmhinljkbaaGreatDoorZpj
import Derived.Ground.GgzProg
import Derived.Ground.SlgmProg
import Derived.Shelf.SlIter.Nil
import Derived.Shelf.SortM.Plain
import Derived.Shelf.SortM.SortNone
import Derived.Test.YtaclgmhinljkbaaGreatDoorProg
import Derived.Test.YtaclgmhinljkbaaGreatDoorZpg
import Derived.Shelf.Strings.BuilderF
import Derived.Test.YtaclgmhinljkbaaGreatDoorZpi
import Derived.Test.YtaclgmhinljkbaaGreatDoorZpd
import Derived.Orders
import Derived.RegionTactic
set_option linter.unusedVariables false
set_option linter.unusedSimpArgs false
namespace Go.Proofs.YtaclgmhinljkbaaGreatDoor
open Go.RowKit

theorem run_lenM {P : Program} {t k e ty : TypeId} (ht : P.underlying t = some (.map k e)) {b : Nat} {es : Array MapEntry} {clock : Nat} {w : World} (hb : w.heap[b]? = some (.map es clock)) :
    (Builtin.len_ #[t] ty #[.map (some b)]).run P w = .ok (.int .i64 es.size) w := by
  simp [Builtin.len_, run_underlying ht, MapKept.run_getObj_map hb, goInt]
/-- What stands in the new map in the midst of a word's letters. -/
def D3 (G : Gr) (ks : List ByteArray) (x : ByteArray) (a : Nat) (u : ByteArray) : Prop := (∃ v ∈ ks, u ∈ nxW G v) ∨ ∃ b : Nat, b < a ∧ accA G (wdA x b) = true ∧ u = wdA x b
def D2 (G : Gr) (ks : List ByteArray) (u : ByteArray) : Prop := ∃ v ∈ ks, u ∈ nxW G v
theorem D3_zero {G : Gr} {ks : List ByteArray} {x u : ByteArray} : D2 G ks u ↔ D3 G ks x 0 u := by
  unfold D3 D2
  constructor
  · exact .inl
  · rintro (h | ⟨b, h, _⟩)
    · exact h
    · omega
theorem D3_yes {G : Gr} {ks : List ByteArray} {x u : ByteArray} {a : Nat} (h : accA G (wdA x a) = true) : (u = wdA x a ∨ D3 G ks x a u) ↔ D3 G ks x (a + 1) u := by
  unfold D3
  constructor
  · rintro (e | e | ⟨b, h1, h2, h3⟩)
    · exact .inr ⟨a, by omega, h, e⟩
    · exact .inl e
    · exact .inr ⟨b, by omega, h2, h3⟩
  · rintro (e | ⟨b, h1, h2, h3⟩)
    · exact .inr (.inl e)
    · rcases Nat.lt_or_ge b a with h4 | h4
      · exact .inr (.inr ⟨b, h4, h2, h3⟩)
      · obtain rfl : b = a := by omega
        exact .inl h3
theorem D3_no {G : Gr} {ks : List ByteArray} {x u : ByteArray} {a : Nat} (h : accA G (wdA x a) = false) : D3 G ks x a u ↔ D3 G ks x (a + 1) u := by
  unfold D3
  constructor
  · rintro (e | ⟨b, h1, h2, h3⟩)
    · exact .inl e
    · exact .inr ⟨b, by omega, h2, h3⟩
  · rintro (e | ⟨b, h1, h2, h3⟩)
    · exact .inl e
    · rcases Nat.lt_or_ge b a with h4 | h4
      · exact .inr ⟨b, h4, h2, h3⟩
      · obtain rfl : b = a := by omega
        rw [h] at h2; cases h2
theorem D3_all {G : Gr} {ks : List ByteArray} {x u : ByteArray} : D3 G ks x G.q.toNat u ↔ D2 G (ks ++ [x]) u := by
  unfold D3 D2
  constructor
  · rintro (⟨v, h1, h2⟩ | ⟨b, h1, h2, h3⟩)
    · exact ⟨v, by simp [h1], h2⟩
    · exact ⟨x, by simp, mem_nx.2 ⟨b, h1, h2, h3⟩⟩
  · rintro ⟨v, h1, h2⟩
    rcases List.mem_append.1 h1 with h | h
    · exact .inl ⟨v, h, h2⟩
    · rw [List.mem_singleton.1 h] at h2
      obtain ⟨b, h3, h4, h5⟩ := mem_nx.1 h2
      exact .inr ⟨b, h3, h4, h5⟩
theorem D2_in {G : Gr} {ks : List ByteArray} {k : Nat} (h : ∀ x ∈ ks, x ∈ wk G k) {u : ByteArray} (hu : D2 G ks u) : u ∈ wk G (k + 1) := by
  obtain ⟨v, h1, h2⟩ := hu
  exact List.mem_flatMap.2 ⟨v, h v h1, h2⟩
theorem D2_is {G : Gr} {ks : List ByteArray} {k : Nat} (h : ∀ x ∈ ks, x ∈ wk G k) (h' : ∀ x ∈ wk G k, x ∈ ks) {u : ByteArray} : D2 G ks u ↔ u ∈ wk G (k + 1) := by
  refine ⟨D2_in h, fun hu => ?_⟩
  obtain ⟨v, h1, h2⟩ := List.mem_flatMap.1 hu
  exact ⟨v, h' v h1, h2⟩
theorem lStep_let (G : Gr) (p : Option Addr) (c : Nat) (x : ByteArray) (q : Option Addr) (l d a : Nat) (w : World) (hin : Sg 3 w edE p G.es) (hst : Sl w (Value.int .i64) q (enA G x)) (hl : l = (enA G x).length) (hv : Vg G) (ha : (a : Int) < G.q) (ha16 : a < 16) :
    Calls Tryz.prog 86 #[(.agg #[.int .i64 G.q, .int .i64 G.n, .slice p G.es.length c]), .slice q l d, .int .u8 ((ltC a).toNat : Int)] w fun e w' => ∃ p2 c2, e = .returned (.slice p2 (enA G (wdA x a)).length c2) ∧ Sl w' (Value.int .i64) p2 (enA G (wdA x a)) ∧ RowKit.Below w.heap.size w w' := by
  subst hl
  have hd := ltC_dig a ha16
  have hS : St G.n (enA G x) := endA_st G _ (St.upto hv.n1) _
  refine (lStep_any G p c (enA G x) q d (ltC a) w hin hst hv hS (by rw [hd]; omega) (by rw [hd]; exact ha)).mono ?_
  rintro e w' ⟨p2, m, c2, rfl, hown, hB⟩
  rw [hd, ← enA_wd G x ha16] at hown
  obtain ⟨p3, c3, e3, hs⟩ := own_sl hown
  cases e3
  exact ⟨_, _, rfl, hs, hB⟩

set_option maxRecDepth 100000 in
set_option maxHeartbeats 4000000 in
theorem lList_any (G : Gr) (p : Option Addr) (c : Nat) (q : Option Addr) (d n : Nat) (w : World) (hin : Sg 3 w edE p G.es) (hst : Sl w (Value.int .i64) q (upto G.n.toNat)) (hv : Vg G) (hq : G.q ≤ 3) (hn : n ≤ 6) :
    Calls Tryz.prog 50 #[(.agg #[.int .i64 G.q, .int .i64 G.n, .slice p G.es.length c]), .slice q (upto G.n.toNat).length d, .int .i64 n] w fun e w' => ∃ b, e = .returned (.tuple #[.map (some b), .bool true]) ∧ LMp G (fun u => u ∈ wk G n) w' b ∧ w.heap.size ≤ b ∧ RowKit.Below w.heap.size w w' := by
  obtain ⟨N, hN⟩ : ∃ N, N = (upto G.n.toNat).length := ⟨_, rfl⟩
  have HNn : Hid (N = G.n.toNat) := by rw [Hid, hN, upto_len]
  rw [← hN]
  have HIN := hidI hin; have HST := hidI hst; have HN := hidI hN
  have hn1 := hv.n1
  have HV := hidI hv
  clear hin hst hN hv
  obtain ⟨w0, hw0⟩ : ∃ w0, w0 = w.alloc (.cells #[.int .i64 G.q, .int .i64 G.n, .slice p G.es.length c] 29) := ⟨_, rfl⟩
  have b0 : VRow w0 w.heap.size 29 [.int .i64 G.q, .int .i64 G.n, .slice p G.es.length c] := by subst hw0; exact VRow.new w _ _
  have hB0 : RowKit.Below w.heap.size w w0 := by subst hw0; exact (RowKit.Below.refl _ _).alloc (Nat.le_refl _) _
  have hmm := @run_makeMap Tryz.prog
  have hM0 : LMp G (fun _ => False) (w0.alloc (.map #[] 0)) w0.heap.size := LMp.made G w0
  have HS0 : Hid (w0.heap.size = w.heap.size + 1) := by rw [Hid]; subst hw0; simp
  rw [HS0.out] at hM0
  have b1 := b0.alloc (.map #[] 0)
  have hB1 : RowKit.Below w.heap.size w (w0.alloc (.map #[] 0)) := hB0.alloc hB0.size _
  have hz0 := b0.lt
  go_enter Tryz.func50, Tryz.ntmps50
  go_upto_if 18 with fail
  rw [← hw0]
  clear hw0
  go_cut [] (fun wx => LMp G (fun u => u ∈ wk G 0) wx (w.heap.size + 1) ∧ VRow wx w.heap.size 29 [.int .i64 G.q, .int .i64 G.n, .slice p G.es.length c] ∧ RowKit.Below w.heap.size w wx)
  case first =>
    by_cases h0 : 0 < N
    · have hI : (0 : Int) < (N : Int) := by omega
      obtain ⟨W', hrun, hM, hT⟩ := hM0.put (u := ⟨#[]⟩) (p := q) d (by show (0 : Nat) ≤ maxLen; omega) (HST.out.below hB1)
      have hl : (enA G ⟨#[]⟩).length = N := HN.out.symm
      rw [hl] at hrun
      have b2 := b1.grown hT.grown (fun e => by have := Option.some.inj e; omega)
      have hB2 := hB1.grown hT.grown hB1.size (fun j e => by have := Option.some.inj e; omega)
      have hM' : LMp G (fun u => u ∈ wk G 0) W' (w.heap.size + 1) := hM.congr (fun u => by
        unfold wk
        rw [if_pos (by have := HNn.out; omega), List.mem_singleton]
        exact ⟨fun h => h.resolve_right id, .inl⟩)
      clear hl hM hM0 b1 hB1
      go_wp2_with fail
      go_meet
      exact ⟨hM', b2, hB2⟩
    · have hI : ¬ (0 : Int) < (N : Int) := by omega
      have hM' : LMp G (fun u => u ∈ wk G 0) (w0.alloc (.map #[] 0)) (w.heap.size + 1) := hM0.congr (fun u => by
        unfold wk
        rw [if_neg (by have := HNn.out; omega)]
        simp)
      go_wp2_with fail
      go_meet
      exact ⟨hM', b1, hB1⟩
  case rest =>
    obtain ⟨hL0, c0, hBc⟩ := hcut
    clear b0 b1 hM0 hB0 hB1
    go_wp2_with fail
    go_loopw [8, 22] (fun av iv wr => ∃ (k b : Nat), k ≤ n ∧ iv = .int .i64 k ∧ av = .map (some b) ∧ w.heap.size < b ∧ LMp G (fun u => u ∈ wk G k) wr b ∧ VRow wr w.heap.size 29 [.int .i64 G.q, .int .i64 G.n, .slice p G.es.length c] ∧ RowKit.Below w.heap.size w wr) (fun _ iv _ => n - (intOf iv).toNat)
    case atStart => exact ⟨0, w.heap.size + 1, by omega, rfl, rfl, by omega, hL0, c0, hBc⟩
    case round =>
      clear hL0 c0 hBc
      obtain ⟨k, b, hk, rfl, rfl, hbw, hL, cr, hB⟩ := hrel
      obtain ⟨wo, rfl⟩ : ∃ wo : World, wo = wr := ⟨_, rfl⟩
      have hbl := hL.lt
      have hrw := hB.size
      by_cases hlt : k < n
      · have hltI : (k : Int) < (n : Int) := by omega
        have hN0 : LMp G (D2 G []) (wo.alloc (.map #[] 0)) wo.heap.size := (LMp.made G wo).congr (fun u => by unfold D2; simp)
        obtain ⟨f, hM, hf1, hf2⟩ := hL
        have hMA := hM.same (w' := wo.alloc (.map #[] 0)) (Below.heap_alloc wo _ b hbl)
        obtain ⟨W0, hrg, hR0, hs0, hg0⟩ := RgA.start (P := Tryz.prog) (t := 82) hMA Tryz.underlying82
        rw [World.size_alloc] at hrg hR0 hs0
        have hN1 : LMp G (D2 G []) W0 wo.heap.size := hN0.keep (hg0.block _ hN0.lt (fun e => by cases e)) (KCl.grown0 hg0)
        have hK0 : KCl wo W0 := (KCl.alloc wo _).trans (KCl.grown0 hg0)
        have HF1 : Hid (∀ u x, f u = some x → u ∈ wk G k ∧ LAt G W0 u x) := fun u x e => ⟨(hf1 u x e).1, (hf1 u x e).2.1, (hf1 u x e).2.2.kcl hK0⟩
        have HF2 := hidI hf2
        have d0 := (cr.alloc (.map #[] 0)).grown hg0 (fun e => by cases e)
        have hB0 : RowKit.Below w.heap.size w W0 := (hB.alloc hrw (.map #[] 0)).grown hg0 (by simp; omega) (fun j e => by cases e)
        obtain ⟨r, hr⟩ : ∃ r, r = wo.heap.size + 1 := ⟨_, rfl⟩
        rw [← hr] at hrg hR0 hs0
        have HR := hidI hr
        have HS := hidI hs0
        clear hN0 hM hMA hg0 hK0 hf1 hf2 hB cr hr hs0
        go_wp2_with fail
        clear hrg
        go_loopw [6] (fun _ wx => ∃ ks : List ByteArray, RgA Value.string okW vvL wx b r ks f ∧ LMp G (D2 G ks) wx wo.heap.size ∧ Hid (∀ x ∈ ks, x ∈ wk G k) ∧ KCl W0 wx ∧ VRow wx w.heap.size 29 [.int .i64 G.q, .int .i64 G.n, .slice p G.es.length c] ∧ RowKit.Below w.heap.size w wx) (fun _ wx => rgLe wx b r)
        case atStart => exact ⟨[], hR0, hN1, (fun x hx => by cases hx), KCl.refl _, d0, hB0⟩
        case round =>
          clear hR0 hN1 d0 hB0
          obtain ⟨ks, hR, hN, hks, hK, d0, hB⟩ := hrel
          have hRl := hR.lt
          rcases hR.next (P := Tryz.prog) keyW.inj 0 with ⟨hall, hrun⟩ | ⟨x, y, W1, hfx, hxk, hxo, hrun, hR1, hlt1, hg1, hsz1, hen⟩
          · have hNW : LMp G (fun u => u ∈ wk G (k + 1)) wr wo.heap.size := hN.congr (fun u => D2_is hks.out (fun x hx => by
              obtain ⟨y, hy⟩ := HF2.out x hx
              exact hall x y (by have := wk_size (G := G) (by omega) hx; unfold okW maxLen; omega) hy))
            obtain ⟨es, clock, hes, hsz, hez⟩ := hNW.size (wk G (k + 1)) (fun u hu => hu)
            have hlen := run_lenM (ty := 3) Tryz.underlying82 hes
            clear hall hR hN hK hes hsz
            by_cases hz : es.size = 0
            · have HZ : Hid (∀ u, u ∈ wk G (k + 1) ↔ u ∈ wk G n) := fun u => by
                have he : wk G (k + 1) = [] := List.eq_nil_iff_forall_not_mem.2 (hez.1 hz)
                rw [he, wk_none he n (by omega)]
              rw [hz] at hlen
              clear hez hz
              go_wp2_with fail
              go_ret2
              exact ⟨_, rfl, hNW.congr HZ.out, hrw, hB⟩
            · have hzI : ((es.size : Int) == 0) = false := by rw [beq_eq_false_iff_ne]; omega
              generalize es.size = z at *
              clear hez hz
              go_wp2_with fail
              go_roundw
              case rel => exact ⟨k + 1, wo.heap.size, by omega, by go_num, rfl, by omega, hNW, d0, hB⟩
              case measure => simp [intOf]; omega
          · obtain ⟨p', l', c'⟩ := y
            obtain ⟨hxw, hl', hsx⟩ := HF1.out x _ hfx
            replace hl' : l' = (enA G x).length := hl'
            have hxs : x.size ≤ 6 := by have := wk_size (G := G) (by omega) hxw; omega
            unfold vvL at hrun hen
            obtain ⟨oi, hoi, hoc, _⟩ := hR.iter
            have hK1 := hK.trans (KCl.grown hg1 hoi hoc)
            have HSX := hidI (show Sl W1 (Value.int .i64) p' (enA G x) from hsx.kcl hK1)
            have HL := hidI hl'
            have hne : wo.heap.size ≠ r := by have := HR.out; omega
            have hN1 : LMp G (D3 G ks x 0) W1 wo.heap.size := (hN.keep (hg1.block _ hN.lt (fun e => hne (Option.some.inj e))) (KCl.grown hg1 hoi hoc)).congr (fun u => D3_zero)
            have e0 := d0.grown hg1 (fun e => by have := Option.some.inj e; have := HR.out; omega)
            have hB1 : RowKit.Below w.heap.size w W1 := hB.grown hg1 hB.size (fun j e => by have := Option.some.inj e; have := HR.out; omega)
            have HX : Hid (x ∈ wk G k) := hxw
            have HLE : Hid (rgLe W1 b r < rgLe wr b r) := hlt1
            have hRl1 := hR1.lt
            have HRN := hidI hR1
            have HK1 := hidI hK1
            clear hR hN hK d0 hB hfx hxk hxo hlt1 hg1 hsz1 hl' hsx hoi hoc hxw hR1
            obtain ⟨wi, rfl⟩ : ∃ wi : World, wi = wr := ⟨_, rfl⟩
            have g0 := e0.at 0 rfl
            go_wp2_with fail
            clear hrun hen g0
            go_loopw [34] (fun iv wr => ∃ a : Nat, a ≤ G.q.toNat ∧ iv = .int .i64 a ∧ LMp G (D3 G ks x a) wr wo.heap.size ∧ KCl W1 wr ∧ wr.heap[b]? = W1.heap[b]? ∧ wr.heap[r]? = W1.heap[r]? ∧ W1.heap.size ≤ wr.heap.size ∧ VRow wr w.heap.size 29 [.int .i64 G.q, .int .i64 G.n, .slice p G.es.length c] ∧ RowKit.Below w.heap.size w wr) (fun iv _ => G.q.toNat - (intOf iv).toNat)
            case atStart => exact ⟨0, by omega, rfl, hN1, KCl.refl _, rfl, rfl, Nat.le_refl _, e0, hB1⟩
            case round =>
              clear hN1 e0 hB1
              obtain ⟨a, ha, rfl, hN, hK2, hb2, hr2, hsz2, e0, hB⟩ := hrel
              have f0 := e0.at 0 rfl; have f1 := e0.at 1 rfl; have f2 := e0.at 2 rfl
              by_cases hlt3 : a < G.q.toNat
              · have haI : (a : Int) < G.q := by omega
                have HST2 := hidI (lStep_let G p c x p' l' c' a wr (HIN.out.below hB) (HSX.out.kcl hK2) HL.out HV.out haI (by omega))
                have HIX := hidI (run_ltC a (by omega))
                have HEN := hidI (ltC_enc a (by omega))
                have hix := run_ltC a (by omega) wr
                have hec : (Utf8.encode ((ltC a).toNat : Int)).size = 1 := by
                  have hq16 : a < 16 := by omega
                  rw [HEN.out]
                  have := wd_sz x hq16
                  unfold wdA at this
                  rw [ByteArray.size_append] at this
                  omega
                have HPUT : Hid (∀ w2 p2 c2, LMp G (D3 G ks x a) w2 wo.heap.size → Sl w2 (Value.int .i64) p2 (enA G (wdA x a)) → ∃ w3, (Instr.mapUpdate 82 (.map (some wo.heap.size)) (.string (x ++ Utf8.encode ((ltC a).toNat : Int))) (.slice p2 (enA G (wdA x a)).length c2)).run Tryz.prog w2 = .ok () w3 ∧ LMp G (fun v => v = wdA x a ∨ D3 G ks x a v) w3 wo.heap.size ∧ w2.mapTurned w3 wo.heap.size) := fun w2 p2 c2 h1 h2 => by
                  have he : x ++ Utf8.encode ((ltC a).toNat : Int) = wdA x a := by unfold wdA; rw [HEN.out]
                  rw [he]
                  exact h1.put c2 (by unfold okW maxLen; rw [← he, ByteArray.size_append, hec]; omega) h2
                have HM : Hid ((enA G (wdA x a)).length = (enA G (wdA x a)).length ∧ (accA G (wdA x a) = decide (0 < (enA G (wdA x a)).length))) := ⟨rfl, accA_en G _⟩
                have hxc : (x ++ Utf8.encode ((ltC a).toNat : Int)).size ≤ maxLen := by unfold maxLen; rw [ByteArray.size_append, hec]; omega
                have HLN : Hid (enA G (wdA x a) = enA G (wdA x a)) := rfl
                generalize hlen : (enA G (wdA x a)).length = M at *
                have HLM := hidI hlen
                clear hlen HIX HEN
                generalize ((ltC a).toNat : Int) = cc at *
                cases hacc : accA G (wdA x a)
                · have hM0 : M = 0 := by
                    have := HM.out.2
                    rw [hacc] at this
                    have := of_decide_eq_false this.symm
                    omega
                  subst hM0
                  have HA := hidI hacc
                  clear hacc hec hxc
                  go_wp2_with (go_at_call 86; refine HST2.out.mono ?_; rintro e w2 ⟨p2, c2, rfl, hs2, hBs⟩)
                  go_roundw
                  case rel => exact ⟨a + 1, by omega, by go_num, (hN.below hBs).congr (fun u => D3_no HA.out), hK2.trans (KCl.below hBs), (hBs.block _ (by omega)).trans hb2, (hBs.block _ (by omega)).trans hr2, Nat.le_trans hsz2 hBs.size, e0.below hBs e0.lt, hB.trans (hBs.mono hB.size)⟩
                  case measure => simp [intOf]; omega
                · have hMI : (0 : Int) < (M : Int) := by
                    have := HM.out.2
                    rw [hacc] at this
                    have := of_decide_eq_true this.symm
                    omega
                  have HA := hidI hacc
                  clear hacc
                  go_wp2_with (go_at_call 86; refine HST2.out.mono ?_; rintro e w2 ⟨p2, c2, rfl, hs2, hBs⟩; obtain ⟨w3, hrun3, hM3, hT3⟩ := HPUT.out w2 p2 c2 (hN.below hBs) hs2)
                  have hNl := hN.lt
                  have hg3 := hT3.grown
                  have hgs := hg3.size
                  have hbs := hBs.size
                  have hB2 := hB.trans (hBs.mono hB.size)
                  have hHR := HR.out
                  go_roundw
                  case rel => exact ⟨a + 1, by omega, by go_num, hM3.congr (fun u => D3_yes HA.out), (hK2.trans (KCl.below hBs)).trans (KCl.turn hT3), (hg3.block _ (by omega) (fun e => by have := Option.some.inj e; omega)).trans ((hBs.block _ (by omega)).trans hb2),
                    (hg3.block _ (by omega) (fun e => by have := Option.some.inj e; omega)).trans ((hBs.block _ (by omega)).trans hr2), by omega, (e0.below hBs e0.lt).grown hg3 (fun e => by have := Option.some.inj e; omega),
                    hB2.grown hg3 hB2.size (fun j e => by have := Option.some.inj e; omega)⟩
                  case measure => simp [intOf]; omega
              · obtain rfl : a = G.q.toNat := by omega
                have haI : ¬ ((G.q.toNat : Int) < G.q) := by omega
                have hksx : Hid (∀ y ∈ ks ++ [x], y ∈ wk G k) := fun y hy => by
                  rcases List.mem_append.1 hy with h | h
                  · exact hks.out y h
                  · rw [List.mem_singleton.1 h]; exact HX.out
                have hN2 : LMp G (D2 G (ks ++ [x])) wr wo.heap.size := hN.congr (fun u => D3_all)
                obtain ⟨es, clock, hes, hsz, _⟩ := hN2.size (wk G (k + 1)) (fun u hu => D2_in hksx.out hu)
                have hlen := run_lenM (ty := 3) Tryz.underlying82 hes
                have hwf := wk_few hq (k := k + 1) (by omega)
                have hszI : ¬ ((4096 : Int) < (es.size : Int)) := by omega
                clear hes
                generalize es.size = z at *
                go_wp2_with fail
                go_roundw
                case rel => exact ⟨ks ++ [x], HRN.out.same hb2 hr2, hN2, hksx, (HK1.out).trans hK2, e0, hB⟩
                case measure =>
                  rw [rgLe_eq hb2 hr2]; exact HLE.out
      · obtain rfl : k = n := by omega
        have hltI : ¬ (k : Int) < (k : Int) := by omega
        go_wp2_with fail
        go_ret2
        exact ⟨_, rfl, hL, by omega, hB⟩
end Go.Proofs.YtaclgmhinljkbaaGreatDoor
namespace Go.Proofs
open Go.Shelf
def Tryz.layKeys_ren : Go.Shelf.Ren := ⟨fun | 7 => 53 | 10 => 89 | n => n, fun | 23 => 82 | 26 => 9 | 3 => 34 | 28 => 65 | 0 => 0 | 27 => 64 | 33 => 51 | 4 => 4 | n => n, fun | n => n⟩
theorem Tryz.layKeys : Go.Proofs.SlLaysZ.n7 Tryz.prog Tryz.layKeys_ren := {
  mixed := by kernel_rfl
  f7 := ⟨Tryz.f53.name, by decide, Tryz.func53.trans (congrArg some (by kernel_rfl))⟩
  f10 := ⟨Tryz.f89.name, by decide, Tryz.func89.trans (congrArg some (by kernel_rfl))⟩
  t0 := Tryz.underlying0
  a0 := Tryz.isAgg0
  z0 := Tryz.sizeOf0
  v0 := Tryz.zeroValue0
  t4 := Tryz.underlying4
  a4 := Tryz.isAgg4
  z4 := Tryz.sizeOf4
  v4 := Tryz.zeroValue4
  t23 := Tryz.underlying82
  a23 := Tryz.isAgg82
  z23 := Tryz.sizeOf82
  v23 := Tryz.zeroValue82
  t26 := Tryz.underlying9
  a26 := Tryz.isAgg9
  z26 := Tryz.sizeOf9
  v26 := Tryz.zeroValue9
  t27 := Tryz.underlying64
  a27 := Tryz.isAgg64
  z27 := Tryz.sizeOf64
  v27 := Tryz.zeroValue64
  t28 := Tryz.underlying65
  a28 := Tryz.isAgg65
  z28 := Tryz.sizeOf65
  v28 := Tryz.zeroValue65
  t33 := Tryz.underlying51
  a33 := Tryz.isAgg51
  z33 := Tryz.sizeOf51
  v33 := Tryz.zeroValue51 }
def Tryz.laySorted_ren : Go.Shelf.Ren := ⟨fun | 6 => 52 | 8 => 87 | 9 => 88 | 11 => 112 | 13 => 37 | 12 => 113 | 23 => 77 | 24 => 78 | 14 => 132 | 15 => 133 | 16 => 134 | 17 => 135 | 18 => 136 | 19 => 137 | 20 => 138 | 21 => 139 | 22 => 140 | 25 => 149 | 26 => 99 | 27 => 100 | 28 => 150 | 29 => 151 | 30 => 152 | 31 => 162 | n => n, fun | 26 => 9 | 28 => 65 | 24 => 22 | 0 => 0 | 3 => 3 | 37 => 69 | 48 => 120 | 50 => 122 | 4 => 4 | 40 => 114 | 39 => 113 | 45 => 52 | 5 => 5 | 9 => 9 | 51 => 137 | 55 => 141 | 57 => 161 | 58 => 162 | 33 => 51 | n => n, fun | n => n⟩
theorem Tryz.laySorted : Go.Proofs.SlLaysZ.n6 Tryz.prog Tryz.laySorted_ren := {
  mixed := by kernel_rfl
  f6 := ⟨Tryz.f52.name, by decide, Tryz.func52.trans (congrArg some (by kernel_rfl))⟩
  f8 := ⟨Tryz.f87.name, by decide, Tryz.func87.trans (congrArg some (by kernel_rfl))⟩
  f11 := ⟨Tryz.f112.name, by decide, Tryz.func112.trans (congrArg some (by kernel_rfl))⟩
  t0 := Tryz.underlying0
  a0 := Tryz.isAgg0
  z0 := Tryz.sizeOf0
  v0 := Tryz.zeroValue0
  t24 := Tryz.underlying22
  a24 := Tryz.isAgg22
  z24 := Tryz.sizeOf22
  v24 := Tryz.zeroValue22
  t26 := Tryz.underlying9
  a26 := Tryz.isAgg9
  z26 := Tryz.sizeOf9
  v26 := Tryz.zeroValue9
  t28 := Tryz.underlying65
  a28 := Tryz.isAgg65
  z28 := Tryz.sizeOf65
  v28 := Tryz.zeroValue65
  i26 := by kernel_rfl }
def Tryz.laySort_ren : Go.Shelf.Ren := ⟨fun | 6 => 88 | 8 => 37 | 9 => 113 | 19 => 77 | 20 => 78 | 21 => 132 | 22 => 133 | 23 => 134 | 24 => 135 | 25 => 136 | 26 => 137 | 27 => 138 | 28 => 139 | 29 => 140 | 36 => 149 | 31 => 99 | 32 => 100 | 37 => 150 | 38 => 151 | 39 => 152 | 41 => 162 | n => n, fun | 27 => 22 | 29 => 9 | 3 => 3 | 32 => 69 | 26 => 22 | 0 => 0 | 44 => 120 | 46 => 122 | 4 => 4 | 36 => 114 | 35 => 113 | 41 => 52 | 5 => 5 | 9 => 9 | 53 => 137 | 57 => 141 | 63 => 161 | 64 => 162 | n => n, fun | n => n⟩
theorem Tryz.laySort : Go.Proofs.SlLaysM.n6 Tryz.prog Tryz.laySort_ren := {
  mixed := by kernel_rfl
  f6 := ⟨Tryz.f88.name, by decide, Tryz.func88.trans (congrArg some (by kernel_rfl))⟩
  f8 := Tryz.func37.trans (congrArg some (by kernel_rfl))
  f9 := ⟨Tryz.f113.name, by decide, Tryz.func113.trans (congrArg some (by kernel_rfl))⟩
  f19 := Tryz.func77.trans (congrArg some (by kernel_rfl))
  f20 := Tryz.func78.trans (congrArg some (by kernel_rfl))
  f21 := ⟨Tryz.f132.name, by decide, Tryz.func132.trans (congrArg some (by kernel_rfl))⟩
  f22 := ⟨Tryz.f133.name, by decide, Tryz.func133.trans (congrArg some (by kernel_rfl))⟩
  f23 := ⟨Tryz.f134.name, by decide, Tryz.func134.trans (congrArg some (by kernel_rfl))⟩
  f24 := ⟨Tryz.f135.name, by decide, Tryz.func135.trans (congrArg some (by kernel_rfl))⟩
  f25 := ⟨Tryz.f136.name, by decide, Tryz.func136.trans (congrArg some (by kernel_rfl))⟩
  f26 := ⟨Tryz.f137.name, by decide, Tryz.func137.trans (congrArg some (by kernel_rfl))⟩
  f27 := ⟨Tryz.f138.name, by decide, Tryz.func138.trans (congrArg some (by kernel_rfl))⟩
  f28 := ⟨Tryz.f139.name, by decide, Tryz.func139.trans (congrArg some (by kernel_rfl))⟩
  f29 := ⟨Tryz.f140.name, by decide, Tryz.func140.trans (congrArg some (by kernel_rfl))⟩
  f31 := Tryz.func99.trans (congrArg some (by kernel_rfl))
  f32 := Tryz.func100.trans (congrArg some (by kernel_rfl))
  f36 := ⟨Tryz.f149.name, by decide, Tryz.func149.trans (congrArg some (by kernel_rfl))⟩
  f37 := ⟨Tryz.f150.name, by decide, Tryz.func150.trans (congrArg some (by kernel_rfl))⟩
  f38 := ⟨Tryz.f151.name, by decide, Tryz.func151.trans (congrArg some (by kernel_rfl))⟩
  f39 := ⟨Tryz.f152.name, by decide, Tryz.func152.trans (congrArg some (by kernel_rfl))⟩
  f41 := ⟨Tryz.f162.name, by decide, Tryz.func162.trans (congrArg some (by kernel_rfl))⟩
  t0 := Tryz.underlying0
  a0 := Tryz.isAgg0
  z0 := Tryz.sizeOf0
  v0 := Tryz.zeroValue0
  t3 := Tryz.underlying3
  a3 := Tryz.isAgg3
  z3 := Tryz.sizeOf3
  v3 := Tryz.zeroValue3
  t4 := Tryz.underlying4
  a4 := Tryz.isAgg4
  z4 := Tryz.sizeOf4
  v4 := Tryz.zeroValue4
  t5 := Tryz.underlying5
  a5 := Tryz.isAgg5
  z5 := Tryz.sizeOf5
  v5 := Tryz.zeroValue5
  t9 := Tryz.underlying9
  a9 := Tryz.isAgg9
  z9 := Tryz.sizeOf9
  v9 := Tryz.zeroValue9
  t26 := Tryz.underlying22
  a26 := Tryz.isAgg22
  z26 := Tryz.sizeOf22
  v26 := Tryz.zeroValue22
  t27 := Tryz.underlying22
  a27 := Tryz.isAgg22
  z27 := Tryz.sizeOf22
  v27 := Tryz.zeroValue22
  t29 := Tryz.underlying9
  a29 := Tryz.isAgg9
  z29 := Tryz.sizeOf9
  v29 := Tryz.zeroValue9
  t32 := Tryz.underlying69
  a32 := Tryz.isAgg69
  z32 := Tryz.sizeOf69
  v32 := Tryz.zeroValue69
  t35 := Tryz.underlying113
  a35 := Tryz.isAgg113
  z35 := Tryz.sizeOf113
  v35 := Tryz.zeroValue113
  t36 := Tryz.underlying114
  a36 := Tryz.isAgg114
  z36 := Tryz.sizeOf114
  v36 := Tryz.zeroValue114
  t41 := Tryz.underlying52
  a41 := Tryz.isAgg52
  z41 := Tryz.sizeOf52
  v41 := Tryz.zeroValue52
  t44 := Tryz.underlying120
  a44 := Tryz.isAgg120
  z44 := Tryz.sizeOf120
  v44 := Tryz.zeroValue120
  t46 := Tryz.underlying122
  a46 := Tryz.isAgg122
  z46 := Tryz.sizeOf122
  v46 := Tryz.zeroValue122
  t53 := Tryz.underlying137
  a53 := Tryz.isAgg137
  z53 := Tryz.sizeOf137
  v53 := Tryz.zeroValue137
  t57 := Tryz.underlying141
  a57 := Tryz.isAgg141
  z57 := Tryz.sizeOf141
  v57 := Tryz.zeroValue141
  t63 := Tryz.underlying161
  a63 := Tryz.isAgg161
  z63 := Tryz.sizeOf161
  v63 := Tryz.zeroValue161
  t64 := Tryz.underlying162
  a64 := Tryz.isAgg162
  z64 := Tryz.sizeOf162
  v64 := Tryz.zeroValue162 }
end Go.Proofs
namespace Go.Proofs.YtaclgmhinljkbaaGreatDoor
open Go Go.RowKit Go.Maps Go.Sort Go.Shelf
open Go.WideElems (Fit rd rg)

theorem sorts_in (m : Nat) : AnyZ.SortsIn Tryz.prog Tryz.laySorted_ren Fence.wide m :=
  ⟨fun blk off cap ss W hH hblk hsz => callsIn_wide.2 (AnyM.slices_Sort_string Tryz.laySort blk off cap ss W hH hblk hsz),
   fun p cap W => callsIn_wide.2 (AnyM.slices_Sort_string_none Tryz.laySort p cap W)⟩
theorem keys_any (mb : Option Nat) (W : World) : CallsIn Fence.wide 5 Tryz.prog 53 #[.map mb] W fun e w' => e = .returned (.func (.func 89) #[] #[.pointer (some ⟨W.heap.size, 0, none⟩)]) ∧ w' = W.alloc (.cells #[.map mb] 82) :=
  AnyZ.keys_in Tryz.layKeys Fence.wide 5 trivial rfl mb W
set_option maxHeartbeats 1000000 in
theorem sorted_keys {H : Type} (b nn : Nat) (D0 : DataW H) (R : Value → Option (DataW H × List MemPlace)) (w : World) (hown : w.ownsMap Tryz.prog 9 R b nn D0) (hmax : Maps.size D0 ≤ maxLen) (hbytes : Maps.size D0 * 16 ≤ 140737488355328) :
    CallsIn Fence.wide 5 Tryz.prog 52 #[.func (.func 89) #[] #[.pointer (some ⟨w.heap.size, 0, none⟩)]] (w.alloc (.cells #[.map (some b)] 82)) fun e w' => ∃ (v : Value) (ss : List (List UInt8)), e = .returned v ∧ ss.Perm (strKeys D0) ∧
      w'.ownsRow (w.alloc (.cells #[.map (some b)] 82)).heap.size 9 1 v ss.length ((ss.mergeSort (fun x y => decide (x ≤ y))).map encStr) ∧ (v = .slice none 0 0 ↔ ss = []) ∧ RowKit.Below (w.alloc (.cells #[.map (some b)] 82)).heap.size (w.alloc (.cells #[.map (some b)] 82)) w' := by
  have hbl := hown.lt
  have hseq : SeqGives Fence.wide 2 Tryz.prog 89 #[.pointer (some ⟨w.heap.size, 0, none⟩)] encStr (fun ss => ss.Perm (strKeys D0)) (Maps.size D0) (w.alloc (.cells #[.map (some b)] 82)) :=
    AnyZ.keys_gives (ρ := Tryz.layKeys_ren) { Tryz.layKeys with } Fence.wide _ trivial rfl (by omega) w.heap.size b nn D0 _ (by simp) (by simp) (by
      obtain ⟨es, clock, hb, Ft, hs, hD⟩ := hown
      exact ⟨es, clock, (Below.heap_alloc _ _ b hbl).trans hb, Ft, hs, hD⟩)
  exact AnyZ.sorted_in Tryz.laySorted Fence.wide 5 trivial trivial trivial trivial rfl (by omega) (sorts_in _) (enters_of Tryz.func88 (by kernel_rfl) rfl) 89 #[.pointer (some ⟨w.heap.size, 0, none⟩)] trivial (enters_of Tryz.func89 (by kernel_rfl) rfl) _ _ hmax hbytes _ hseq
/-- A map's element reads as nothing. -/
def noR : Value → Option (DataW Unit × List MemPlace) := fun _ => some (.nil, [])
theorem wk_strict {G : Gr} (hq : G.q ≤ 16) (k : Nat) : ((wk G k).map bl).Pairwise (· < ·) := List.pairwise_map.2 (wk_sorted hq k)
theorem LMp.owns {G : Gr} {k : Nat} {W : World} {b : Nat} (h : LMp G (fun u => u ∈ wk G k) W b) (hq : G.q ≤ 3) (hk : k ≤ 6) :
    ∃ D0 : DataW Unit, W.ownsMap Tryz.prog 9 noR b 729 D0 ∧ Maps.size D0 ≤ 729 ∧ (strKeys D0).Perm ((wk G k).map bl) := by
  have hsz0 : ∀ es clock, W.heap[b]? = some (.map es clock) → es.size ≤ (wk G k).length := fun es clock he => by
    obtain ⟨es', clock', h1', hsz, _⟩ := h.size (wk G k) (fun u hu => hu)
    rw [he] at h1'; cases h1'; exact hsz
  have hbo0 : ∀ es clock, W.heap[b]? = some (.map es clock) → (es.toList.map (·.born)).Nodup ∧ ∀ e ∈ es.toList, e.born < clock := fun es clock he => by
    obtain ⟨f, ⟨_, es', clock', h1', h2, h3⟩, _⟩ := h
    rw [he] at h1'; cases h1'; exact ⟨h2, h3⟩
  obtain ⟨f, ⟨⟨es, clock, h1, h2, h3, h4⟩, _⟩, h5, h6⟩ := h
  have hsz := hsz0 es clock h1
  obtain ⟨hbn, hbl⟩ := hbo0 es clock h1
  have hfew := wk_few hq (k := k) hk
  have hkey : ∀ e ∈ es.toList, ∃ u, e.key = .string u ∧ okW u ∧ u ∈ wk G k := fun e he => by
    obtain ⟨a, x, e1, ho, _, e2⟩ := h3 e he
    exact ⟨a, e1, ho, (h5 a x e2).1⟩
  have hrd : ∀ e ∈ es.toList, WideElems.rd Tryz.prog 9 noR e = some (.string (bl (keyU e.key)), .nil) := fun e he => by
    obtain ⟨u, hu, ho, _⟩ := hkey e he
    unfold WideElems.rd
    rw [hu]
    simp [keyOf, mapKey, Tryz.underlying9, noR, keyU, bl]
    rw [if_pos (show u.size ≤ maxLen from ho)]; rfl
  have hrg : es.toList.map (rg Tryz.prog 9 noR) = es.toList.map (fun e => (Lit.string (bl (keyU e.key)), DataW.nil)) := List.map_congr_left (fun e he => by unfold rg; rw [hrd e he]; rfl)
  have hks : (es.toList.map (·.key)).Nodup := by
    rw [List.nodup_iff_pairwise_ne, List.pairwise_map]; exact h2
  refine ⟨_, ⟨es, clock, h1, ⟨by unfold maxLen; omega, ⟨hbl, hbn, hks⟩, fun x hx => ⟨_, hrd x hx⟩⟩, by omega, rfl⟩, ?_, ?_⟩
  · rw [Maps.size_eq, length_sorted, List.length_map, Array.length_toList]; omega
  · have hp : (strKeys (.map ((es.toList.map (rg Tryz.prog 9 noR)).foldr DataW.insert []))).Perm (es.toList.map (fun e => bl (keyU e.key))) := by
      unfold strKeys
      refine ((WideShapes.sorted_perm _).map _).trans ?_
      rw [hrg, List.map_map]
      exact List.Perm.of_eq rfl
    refine hp.trans ?_
    have hu : ∀ e ∈ es.toList, e.key = .string (keyU e.key) := fun e he => by
      obtain ⟨u, hu, _⟩ := hkey e he
      rw [hu]; rfl
    have n1 : (es.toList.map (fun e => bl (keyU e.key))).Nodup := by
      rw [List.nodup_iff_pairwise_ne, List.pairwise_map]
      exact List.Pairwise.imp_of_mem (fun {x y} hx hy hne e => hne (by rw [hu x hx, hu y hy, bl_inj e])) h2
    have n2 : ((wk G k).map bl).Nodup := (wk_strict (by omega) k).imp (fun {a b} h e => by subst e; exact List.lt_irrefl _ h)
    refine (List.perm_ext_iff_of_nodup n1 n2).2 (fun x => ?_)
    constructor
    · intro hx
      obtain ⟨e, he, rfl⟩ := List.mem_map.1 hx
      obtain ⟨u, hu, _, hm⟩ := hkey e he
      rw [hu]
      exact List.mem_map_of_mem hm
    · intro hx
      obtain ⟨u, hm, rfl⟩ := List.mem_map.1 hx
      obtain ⟨x, hx⟩ := h6 u hm
      obtain ⟨e, he, hk⟩ := h4 u x hx
      exact List.mem_map.2 ⟨e, he, by rw [hk]; rfl⟩
theorem enc_bl (u : ByteArray) : encStr (bl u) = .string u := by simp [encStr, bl]
/-- The words of a map, in order. -/
theorem sorted_words {G : Gr} {k : Nat} {w : World} {b : Nat} (h : LMp G (fun u => u ∈ wk G k) w b) (hq : G.q ≤ 3) (hk : k ≤ 6) :
    CallsIn Fence.wide 5 Tryz.prog 52 #[.func (.func 89) #[] #[.pointer (some ⟨w.heap.size, 0, none⟩)]] (w.alloc (.cells #[.map (some b)] 82)) fun e w' => ∃ q c, e = .returned (.slice q (wk G k).length c) ∧ w'.ownsRow w.heap.size 9 1 (.slice q (wk G k).length c) (wk G k).length ((wk G k).map Value.string) ∧ RowKit.Below w.heap.size w w' := by
  obtain ⟨D0, hown, hs, hp⟩ := h.owns hq hk
  refine (sorted_keys b 729 D0 noR w hown (by unfold maxLen; omega) (by omega)).mono ?_
  rintro e w' ⟨v, ss, rfl, hS, hrow, _, hB⟩
  rw [sort_is (hS.trans hp) (wk_strict (by omega) k), List.map_map, show (encStr ∘ bl) = Value.string from funext enc_bl] at hrow
  have hn := (hS.trans hp).length_eq
  rw [List.length_map] at hn
  rw [hn] at hrow
  obtain ⟨q, c, rfl, _⟩ := own_sl hrow
  exact ⟨q, c, rfl, own_baseI hrow (by simp), ((RowKit.Below.refl _ _).alloc (Nat.le_refl _) _).trans (hB.mono (by simp))⟩

theorem lLengths_any (G : Gr) (p : Option Addr) (c : Nat) (n : Int) (w : World) (hin : Sg 3 w edE p G.es) (hv : Vg G) (hq : G.q ≤ 16) (hn0 : 0 ≤ n) (hn1 : n ≤ 4096) :
    Calls Tryz.prog 49 #[(.agg #[.int .i64 G.q, .int .i64 G.n, .slice p G.es.length c]), .int .i64 n] w fun e w' => e = .returned (.int .i64 0) ∧ RowKit.Below w.heap.size w w' := by
  have HIN := hidI hin; have HV := hidI hv
  clear hin hv
  obtain ⟨w0, hw0⟩ : ∃ w0, w0 = w.alloc (.cells #[.int .i64 G.q, .int .i64 G.n, .slice p G.es.length c] 29) := ⟨_, rfl⟩
  have b0 : VRow w0 w.heap.size 29 [.int .i64 G.q, .int .i64 G.n, .slice p G.es.length c] := by subst hw0; exact VRow.new w _ _
  have hB0 : RowKit.Below w.heap.size w w0 := by subst hw0; exact (RowKit.Below.refl _ _).alloc (Nat.le_refl _) _
  have d0 : ¬ n < 0 := by omega
  have d1 : ¬ 4096 < n := by omega
  go_enter Tryz.func49, Tryz.ntmps49
  go_wp2_with fail
  rw [← hw0]
  clear hw0
  refine (lCheck_any G p c w0 (HIN.out.below hB0) HV.out hq).mono ?_
  rintro e w1 ⟨rfl, hB1⟩
  go_wp2
  go_ret
  exact ⟨rfl, hB0.trans (hB1.mono hB0.size)⟩

set_option maxRecDepth 100000 in
set_option maxHeartbeats 1000000 in
theorem lWords_any (G : Gr) (p : Option Addr) (c n : Nat) (w : World) (hin : Sg 3 w edE p G.es) (hv : Vg G) (hq : G.q ≤ 3) (hn : n ≤ 6) :
    Calls Tryz.prog 25 #[(.agg #[.int .i64 G.q, .int .i64 G.n, .slice p G.es.length c]), .int .i64 n] w fun e w' => ∃ q d, e = .returned (.tuple #[.slice q (wk G n).length d, .int .i64 0]) ∧ w'.ownsRow w.heap.size 9 1 (.slice q (wk G n).length d) (wk G n).length ((wk G n).map Value.string) ∧ RowKit.Below w.heap.size w w' := by
  have HIN := hidI hin; have HV := hidI hv
  clear hin hv
  obtain ⟨w0, hw0⟩ : ∃ w0, w0 = w.alloc (.cells #[.int .i64 G.q, .int .i64 G.n, .slice p G.es.length c] 29) := ⟨_, rfl⟩
  have b0 : VRow w0 w.heap.size 29 [.int .i64 G.q, .int .i64 G.n, .slice p G.es.length c] := by subst hw0; exact VRow.new w _ _
  have hB0 : RowKit.Below w.heap.size w w0 := by subst hw0; exact (RowKit.Below.refl _ _).alloc (Nat.le_refl _) _
  go_enter Tryz.func25, Tryz.ntmps25
  go_wp2_with fail
  rw [← hw0]
  clear hw0
  refine (lLengths_any G p c n w0 (HIN.out.below hB0) HV.out (by omega) (by omega) (by omega)).mono ?_
  rintro e w1 ⟨rfl, hB1⟩
  have x1 := hB0.trans (hB1.mono hB0.size)
  have b1 := b0.below hB1 b0.lt
  go_upto_region 4 with fail
  have g0 := b1.at 0 rfl; have g1 := b1.at 1 rfl; have g2 := b1.at 2 rfl
  have zb : w.heap.size < w1.heap.size := b1.lt
  have HIX : Hid (∀ W, RowKit.Below w1.heap.size w1 W → Sg 3 W edE p G.es) := fun W h => HIN.out.below (x1.trans (h.mono x1.size))
  clear b0 hB0 hB1 b1
  go_cut [7, 8] (fun s7 s8 wx => ∃ b, s7 = .map (some b) ∧ s8 = .bool true ∧ LMp G (fun u => u ∈ wk G n) wx b ∧ RowKit.Below w1.heap.size w1 wx)
  case first =>
    go_region_held3 (fun w' => w'.cell? ⟨w.heap.size, 0, none⟩ = some (.int .i64 G.q) ∧ w'.cell? ⟨w.heap.size, 1, none⟩ = some (.int .i64 G.n) ∧ w'.cell? ⟨w.heap.size, 2, none⟩ = some (.slice p G.es.length c) ∧ RowKit.Below w1.heap.size w1 w')
      (first | (go_split_ands; refine ⟨?_, ?_, ?_, ?_⟩ <;> first | assumption | (go_keep; done) | exact below_drewN (RowKit.Below.refl _ _) 1 | exact (hBa.cell (Nat.lt_of_lt_of_le zb (RowKit.Below.size (by assumption)))).trans (by assumption) | exact (hBb.cell (Nat.lt_of_lt_of_le zb (RowKit.Below.size (by assumption)))).trans (by assumption) | exact RowKit.Below.trans (by assumption) (hBa.mono (RowKit.Below.size (by assumption))) | exact RowKit.Below.trans (by assumption) (hBb.mono (RowKit.Below.size (by assumption)))))
      (first
        | (go_at_call 51; go_split_ands; refine (lStates_any G p c _ HV.out).mono ?_; rintro e wA ⟨q, d, rfl, hsl, hBa⟩)
        | (go_at_call 50; go_split_ands; refine (lList_any G p c q d n _ (HIX.out _ (by assumption)) hsl HV.out hq hn).mono ?_; rintro e wB ⟨b, rfl, hLM, _, hBb⟩))
    all_goals
      go_wp2_with fail
      go_meet
      exact ⟨b, rfl, rfl, hLM, RowKit.Below.trans (by assumption) (hBb.mono (RowKit.Below.size (by assumption)))⟩
  case rest =>
    obtain ⟨b, rfl, rfl, hLM, hB2⟩ := hcut
    have HSW := hidI (sorted_words hLM hq hn)
    have hB3 := x1.trans (hB2.mono x1.size)
    have HL := hidI hLM
    clear hLM g0 g1 g2
    go_wp2_with (first
      | (go_at_call 53; refine (callsIn_wide.1 (keys_any _ _)).mono ?_; rintro e w' ⟨rfl, rfl⟩)
      | (go_at_call 52; refine (callsIn_wide.1 HSW.out).mono ?_; rintro e w' ⟨q, d, rfl, hsl, hBs⟩))
    go_ret2
    exact ⟨q, d, rfl, own_baseI hsl hB3.size, hB3.trans (hBs.mono hB3.size)⟩
end Go.Proofs.YtaclgmhinljkbaaGreatDoor
namespace Go.Proofs.YtaclgmhinljkbaaGreatDoor
open Go.RowKit

theorem sizeBuilderP : (Tryz.prog.info? 92).map (·.size) = some 2 := by kernel_rfl
theorem liesBuilderP : liesAt Tryz.prog Tryz.prog.depth 92 (2 / Tryz.prog.cellsOf 92) 0 92 1 = true := by kernel_rfl
theorem infoByteP : (Tryz.prog.info? 5).map (fun i => (i.zero, i.size, i.bytes)) = some (some (.int .u8 0), 1, 1) := by kernel_rfl

set_option maxHeartbeats 1000000 in
set_option maxRecDepth 100000 in
theorem bcopy_usedP (b : Nat) (w : World) (h0 : w.cell? ⟨b, 0, none⟩ = some (.pointer (some ⟨b, 0, none⟩))) :
    Calls Tryz.prog 90 #[.pointer (some ⟨b, 0, none⟩)] w fun e w' => e = .returned (.tuple #[]) ∧ w' = w := by
  obtain ⟨j, hj, _⟩ := Option.map_eq_some_iff.1 sizeBuilderP
  go_enter Tryz.func90, Tryz.ntmps90
  go_wp2
  rw [Lib.run_neq_ptr_same w _ Tryz.underlying89 hj]
  go_wp2
  go_end0
  exact ⟨rfl, rfl⟩

set_option maxHeartbeats 1000000 in
set_option maxRecDepth 100000 in
theorem bcopy_freshP (b : Nat) (w : World) (h0 : w.cell? ⟨b, 0, none⟩ = some (.pointer none)) (hsh : w.shape? b = some (92, 2)) (hfz : w.frozen? ⟨b, 0, none⟩ = false) :
    Calls Tryz.prog 90 #[.pointer (some ⟨b, 0, none⟩)] w fun e w' => e = .returned (.tuple #[]) ∧ w' = w.setCell ⟨b, 0, none⟩ (.pointer (some ⟨b, 0, none⟩)) := by
  obtain ⟨j, hj, hjs⟩ := Option.map_eq_some_iff.1 sizeBuilderP
  go_enter Tryz.func90, Tryz.ntmps90
  go_wp2
  rw [Lib.run_to_unsafe w ⟨b, 0, none⟩ Tryz.underlying89 Tryz.underlying152 hj (by rw [hjs]; decide) hsh (Nat.zero_lt_succ 1)]
  simp only [Result.andThen]
  rw [Oper.upon_value]
  go_wp2
  rw [run_callFunc_extern Tryz.func114 (by kernel_rfl) (by kernel_rfl) (by kernel_rfl) (e := Extern.AbiNoEscape.same) (by kernel_rfl)]
  rw [Lib.run_noEscape]
  simp only [Result.andThen]
  rw [Oper.upon_value]
  go_wp2
  rw [Lib.run_from_unsafe w ⟨b, 0, none⟩ Tryz.underlying152 Tryz.underlying89 hj hsh liesBuilderP]
  simp only [Result.andThen]
  rw [Oper.upon_value]
  go_wp2
  go_end0
  exact ⟨rfl, rfl⟩

theorem bcopy_anyP (B b : Nat) (bs : List Value) (w : World) (h : Lib.IsBuilderF 92 5 B b bs w) :
    Calls Tryz.prog 90 #[.pointer (some ⟨b, 0, none⟩)] w fun e w' => e = .returned (.tuple #[]) ∧ (Lib.BuilderAtF 92 5 B b (.pointer (some ⟨b, 0, none⟩)) bs w' ∧ Below B w w') := by
  rcases h with h | h
  · refine (bcopy_freshP b w h.cell0 h.shape h.frozen0).mono ?_
    rintro e w' ⟨rfl, rfl⟩
    exact ⟨rfl, h.used _, (Below.refl B w).setCell (p := ⟨b, 0, none⟩) h.1 _⟩
  · refine (bcopy_usedP b w h.cell0).mono ?_
    rintro e w' ⟨rfl, rfl⟩
    exact ⟨rfl, h, Below.refl B _⟩

set_option maxHeartbeats 2000000 in
set_option maxRecDepth 100000 in
theorem bwrite_anyP (B b : Nat) (bs : List Value) (s : ByteArray) (w : World) (h : Lib.IsBuilderF 92 5 B b bs w) (hlen : bs.length + s.size ≤ 140737488355328) (hBw : B ≤ w.heap.size) :
    Calls Tryz.prog 142 #[.pointer (some ⟨b, 0, none⟩), .string s] w fun e w' => e = .returned (.tuple #[.int .i64 s.size, .nilIface]) ∧ (Lib.BuilderAtF 92 5 B b (.pointer (some ⟨b, 0, none⟩)) (bs ++ Lib.strCells s) w' ∧ Below B w w') := by
  obtain ⟨i0, hi, hz0, hz1, hz2⟩ := info_parts infoByteP
  go_enter Tryz.func142, Tryz.ntmps142
  go_wp2_with (go_at_call 90; refine (bcopy_anyP B b bs _ h).mono ?_)
  rintro e w1 ⟨rfl, h1, hb1⟩
  obtain ⟨hB, v, hbk, hown, hne⟩ := h1
  have c0 : w1.cell? ⟨b, 0, none⟩ = some (.pointer (some ⟨b, 0, none⟩)) := by rw [Lib.cell_of_heap hbk]; rfl
  have c1 : w1.cell? ⟨b, 1, none⟩ = some v := by rw [Lib.cell_of_heap hbk]; rfl
  go_wp2_with (at_builtin; refine Lib.wpList_append_own_stringF _ rfl _ _ 90 9 rfl B 5 i0 Tryz.underlying90 Tryz.underlying9 hi hz0 hz1 hz2 _ _ _ rfl hown s rfl ?c3 ?c4 ?c5 ?_)
  case c3 => unfold maxLen; omega
  case c4 => omega
  case c5 => have := hb1.size; omega
  intro v' w2 hown' hgrow _
  have hlt : b < w1.heap.size := by
    rcases Nat.lt_or_ge b w1.heap.size with h' | h'
    · exact h'
    · simp [Array.getElem?_eq_none h'] at hbk
  have hb2 : w2.heap[b]? = some (.cells #[.pointer (some ⟨b, 0, none⟩), v] 92 (0, 0)) := by
    rw [hgrow.block b hlt (fun e => hne e.symm)]
    exact hbk
  have d0 : w2.cell? ⟨b, 0, none⟩ = some (.pointer (some ⟨b, 0, none⟩)) := by rw [Lib.cell_of_heap hb2]; rfl
  have d1 : w2.cell? ⟨b, 1, none⟩ = some v := by rw [Lib.cell_of_heap hb2]; rfl
  have f1 : w2.frozen? ⟨b, 1, none⟩ = false := Lib.frozen_of_heap hb2 1
  obtain ⟨ao, n', cap, rfl⟩ : ∃ ao n' cap, v' = .slice ao n' cap := by
    rcases hown'.2 with ⟨hv, _⟩ | ⟨g, cap, cur, fz, hv, _⟩
    · exact ⟨_, _, _, hv⟩
    · exact ⟨_, _, _, hv⟩
  go_wp2
  go_ret2
  refine ⟨rfl, ?_, ?_⟩
  · exact Lib.BuilderAtF.put (T := 92) (e := 5) hB hb2 (bs' := bs ++ Lib.strCells s) (by simpa [Lib.strCells_length] using hown') (by decide)
  · exact (hb1.grown hgrow (by have := hb1.size; omega) (fun k hk => (hown.lt k hk).1)).setCell (p := ⟨b, 1, none⟩) hB _
end Go.Proofs.YtaclgmhinljkbaaGreatDoor
namespace Go.Proofs.YtaclgmhinljkbaaGreatDoor
open Go.RowKit

/-- A builder in block b, its bytes in a block from B2 on. -/
def Bd (b B2 : Nat) (bs : List Value) (w : World) : Prop :=
  b < B2 ∧ ∃ p v, (p = .pointer none ∨ p = .pointer (some ⟨b, 0, none⟩)) ∧ w.heap[b]? = some (.cells #[p, v] 92 (0, 0)) ∧ w.ownsRowF B2 5 1 v bs.length bs
/-- What a write of the builder keeps. -/
def KB (b B2 : Nat) (w w' : World) : Prop := RowKit.Below b w w' ∧ ∀ i, b < i → i < B2 → w'.heap[i]? = w.heap[i]?
theorem KB.trans {b B2 : Nat} {x y z : World} (h : KB b B2 x y) (k : KB b B2 y z) : KB b B2 x z := ⟨h.1.trans k.1, fun i h1 h2 => (k.2 i h1 h2).trans (h.2 i h1 h2)⟩
theorem KB.below {b B2 : Nat} {x y : World} (h : RowKit.Below x.heap.size x y) (hb : b ≤ x.heap.size) (hB : B2 ≤ x.heap.size) : KB b B2 x y := ⟨h.mono hb, fun i _ h2 => h.block i (by omega)⟩
theorem KB.refl (b B2 : Nat) (x : World) : KB b B2 x x := ⟨RowKit.Below.refl _ _, fun _ _ _ => rfl⟩
theorem ownF_same {w w' : World} {B e n : Nat} {v : Value} {xs : List Value} (h : w.ownsRowF B e 1 v n xs) (hs : ∀ j, B ≤ j → j < w.heap.size → w'.heap[j]? = w.heap[j]?) : w'.ownsRowF B e 1 v n xs := by
  refine ⟨h.1, ?_⟩
  rcases h.2 with h0 | ⟨g, cap, cur, fz, e1, e2, e3, e4⟩
  · exact .inl h0
  · exact .inr ⟨g, cap, cur, fz, e1, e2, (hs g e2 (Array.getElem?_eq_some_iff.1 e3).1).trans e3, e4⟩
theorem ownF_base {w : World} {B B' e n : Nat} {v : Value} {xs : List Value} (h : w.ownsRowF B e 1 v n xs) (hB : B' ≤ B) : w.ownsRowF B' e 1 v n xs := by
  refine ⟨h.1, ?_⟩
  rcases h.2 with h0 | ⟨g, cap, cur, fz, e1, e2, e3, e4⟩
  · exact .inl h0
  · exact .inr ⟨g, cap, cur, fz, e1, Nat.le_trans hB e2, e3, e4⟩
theorem Bd.at {b B2 : Nat} {bs : List Value} {w : World} {p v : Value} (hl : b < B2) (hb : w.heap[b]? = some (.cells #[p, v] 92 (0, 0))) (hown : w.ownsRowF B2 5 1 v bs.length bs) : Lib.BuilderAtF 92 5 b b p bs w :=
  ⟨Nat.le_refl _, v, hb, ownF_base hown (by omega), fun e => by have := (hown.lt b e).1; omega⟩
theorem Bd.isb {b B2 : Nat} {bs : List Value} {w : World} (h : Bd b B2 bs w) : Lib.IsBuilderF 92 5 b b bs w := by
  obtain ⟨hl, p, v, hp, hb, hown⟩ := h
  rcases hp with rfl | rfl
  · exact .inl (Bd.at hl hb hown)
  · exact .inr (Bd.at hl hb hown)
theorem Bd.below {b B2 : Nat} {bs : List Value} {w w' : World} (h : Bd b B2 bs w) (hB : RowKit.Below w.heap.size w w') : Bd b B2 bs w' := by
  obtain ⟨hl, p, v, hp, hb, hown⟩ := h
  exact ⟨hl, p, v, hp, (hB.block b (Array.getElem?_eq_some_iff.1 hb).1).trans hb, ownF_same hown (fun j _ hj => hB.block j hj)⟩
theorem bcopy_B {b B2 : Nat} {bs : List Value} {w : World} {p v : Value} (hl : b < B2) (hp : p = .pointer none ∨ p = .pointer (some ⟨b, 0, none⟩)) (hb : w.heap[b]? = some (.cells #[p, v] 92 (0, 0))) (hown : w.ownsRowF B2 5 1 v bs.length bs) :
    Calls Tryz.prog 90 #[.pointer (some ⟨b, 0, none⟩)] w fun e w' => e = .returned (.tuple #[]) ∧ w'.heap[b]? = some (.cells #[.pointer (some ⟨b, 0, none⟩), v] 92 (0, 0)) ∧ w'.ownsRowF B2 5 1 v bs.length bs ∧ KB b B2 w w' ∧ w'.heap.size = w.heap.size := by
  have hA := Bd.at hl hb hown
  rcases hp with rfl | rfl
  · refine (bcopy_freshP b w hA.cell0 hA.shape hA.frozen0).mono ?_
    rintro e w' ⟨rfl, rfl⟩
    refine ⟨rfl, by simp [World.setCell, Array.getElem?_modify, hb], ownF_same hown (fun j h1 _ => Below.heap_setCell _ _ _ _ (by simp; omega)), ⟨(RowKit.Below.refl b w).setCell (p := ⟨b, 0, none⟩) (Nat.le_refl _) _, fun i h1 _ => Below.heap_setCell _ _ _ _ (by simp; omega)⟩, by simp⟩
  · refine (bcopy_usedP b w hA.cell0).mono ?_
    rintro e w' ⟨rfl, rfl⟩
    exact ⟨rfl, hb, hown, KB.refl _ _ _, rfl⟩
set_option maxHeartbeats 2000000 in
set_option maxRecDepth 100000 in
theorem bbyte_any (b B2 : Nat) (bs : List Value) (c : Int) (w : World) (h : Bd b B2 bs w) (hlen : bs.length + 1 ≤ 1000) (hBw : B2 ≤ w.heap.size) :
    Calls Tryz.prog 58 #[.pointer (some ⟨b, 0, none⟩), .int .u8 c] w fun e w' => e = .returned .nilIface ∧ Bd b B2 (bs ++ [.int .u8 c]) w' ∧ KB b B2 w w' ∧ B2 ≤ w'.heap.size := by
  obtain ⟨hl, p, v, hp, hb, hown⟩ := h
  obtain ⟨i0, hi, hz0, hz1, hz2⟩ := info_parts infoByteP
  have HC := hidI (bcopy_B hl hp hb hown)
  clear hp hb hown
  go_enter Tryz.func58, Tryz.ntmps58
  go_wp2_with (go_at_call 90; refine HC.out.mono ?_)
  rintro e w1 ⟨rfl, hbk, hown, hk1, hs1⟩
  have HS1 := hidI hs1
  have hBw1 : B2 ≤ w1.heap.size := by omega
  have hbl : b < w1.heap.size := by omega
  clear hs1
  have c0 : w1.cell? ⟨b, 0, none⟩ = some (.pointer (some ⟨b, 0, none⟩)) := by rw [Lib.cell_of_heap hbk]; rfl
  have c1 : w1.cell? ⟨b, 1, none⟩ = some v := by rw [Lib.cell_of_heap hbk]; rfl
  go_wp2_with (at_builtin; refine wpList_append_ownF _ rfl _ _ 90 rfl B2 5 i0 (.int .u8 0) 1 1 Tryz.underlying90 hi hz0 hz1 hz2 rfl (by decide) _ _ _ rfl (hown.alloc _) ⟨w1.heap.size, 0, none⟩ 1 1 [.int .u8 c] rfl rfl ?c1 ?c2 ?c3 ?c4 ?c5 ?_)
  case c1 =>
    intro j u hj
    match j, hj with
    | 0, hj => simp at hj; subst hj; simp [Addr.add]
  case c2 => intro u hu; simp at hu; subst hu; rfl
  case c3 => unfold maxLen; omega
  case c4 => omega
  case c5 => simp; omega
  intro v' w2 hown' hgrow _
  have hne : v.ownBlock ≠ some b := fun e => by have := (hown.lt b e).1; omega
  have hb2 : w2.heap[b]? = some (.cells #[.pointer (some ⟨b, 0, none⟩), v] 92 (0, 0)) := by
    rw [hgrow.block b (by simp; omega) (fun e => hne e.symm), Lib.alloc_old w1 _ b hbl]
    exact hbk
  have d0 : w2.cell? ⟨b, 0, none⟩ = some (.pointer (some ⟨b, 0, none⟩)) := by rw [Lib.cell_of_heap hb2]; rfl
  have d1 : w2.cell? ⟨b, 1, none⟩ = some v := by rw [Lib.cell_of_heap hb2]; rfl
  have f1 : w2.frozen? ⟨b, 1, none⟩ = false := Lib.frozen_of_heap hb2 1
  have hgs := hgrow.size
  obtain ⟨g, cap, rfl⟩ : ∃ g cap, v' = .slice (some ⟨g, 0, none⟩) (bs.length + 1) cap := by
    rcases hown'.2 with ⟨_, h0⟩ | ⟨g, cap, cur, fz, hv, _⟩
    · omega
    · exact ⟨g, cap, hv⟩
  have HBL : Hid (RowKit.Below b w1 w2) := ((RowKit.Below.refl b w1).alloc (by omega) _).grown hgrow (by simp; omega) (fun k hk => by have := (hown.lt k hk).1; omega)
  have HKP : Hid (∀ i, b < i → i < B2 → w2.heap[i]? = w1.heap[i]?) := fun i h1 h2 => (hgrow.block i (by simp; omega) (fun e => by have := (hown.lt i e.symm).1; omega)).trans (Lib.alloc_old w1 _ i (by omega))
  simp only [World.size_alloc] at hgs
  go_wp2
  go_ret
  refine ⟨rfl, ⟨hl, .pointer (some ⟨b, 0, none⟩), .slice (some ⟨g, 0, none⟩) (bs.length + 1) cap, .inr rfl, by simp [World.setCell, Array.getElem?_modify, hb2], ownF_same (by simpa using hown') (fun j h1 _ => Below.heap_setCell _ _ _ _ (by simp; omega))⟩, hk1.trans ⟨HBL.out.setCell (p := ⟨b, 1, none⟩) (Nat.le_refl _) _, fun i h1 h2 => (Below.heap_setCell _ _ _ _ (by simp; omega)).trans (HKP.out i h1 h2)⟩, by simp; omega⟩
theorem lLetters1_any (b B2 : Nat) (bs : List Value) (c : Int) (w : World) (h : Bd b B2 bs w) (hlen : bs.length + 1 ≤ 1000) (hBw : B2 ≤ w.heap.size) :
    Calls Tryz.prog 57 #[.int .u8 c, .pointer (some ⟨b, 0, none⟩)] w fun e w' => e = .returned (.tuple #[]) ∧ Bd b B2 (bs ++ [.int .u8 c]) w' ∧ KB b B2 w w' ∧ B2 ≤ w'.heap.size := by
  have HC := hidI (bbyte_any b B2 bs c w h hlen hBw)
  clear h
  go_enter Tryz.func57, Tryz.ntmps57
  go_wp2_with (go_at_call 58; refine HC.out.mono ?_; rintro e w' ⟨rfl, h1, h2, h3⟩)
  go_end0
  exact ⟨rfl, h1, h2, h3⟩
end Go.Proofs.YtaclgmhinljkbaaGreatDoor
namespace Go.Proofs.YtaclgmhinljkbaaGreatDoor
open Go

section
variable {P : Program} {ops : Array Oper} {Q : Exit → Act → World → Prop} {md : Region.Mode}
/-- All that an operation waits for is done. -/
def rdyAtD (md : Region.Mode) (ops : Array Oper) (listed : Array Bool) (i : Nat) : Bool := ((ops[i]?).map (·.after.all fun e => !Region.binds md e || listed.getD e.on false)).getD false
theorem mem_readyD {listed : Array Bool} {i : Nat} : i ∈ Region.ready md ops listed ↔ i < ops.size ∧ listed.getD i true = false ∧ rdyAtD md ops listed i = true := by
  unfold Region.ready rdyAtD
  rw [List.mem_filter, List.mem_range, Bool.and_eq_true, Bool.not_eq_true']
theorem getD_falseD {listed : Array Bool} {i : Nat} (h : listed.getD i true = false) : ∃ hi : i < listed.size, listed[i] = false := by
  by_cases hi : i < listed.size
  · refine ⟨hi, ?_⟩
    simpa [Array.getD, hi] using h
  · simp [Array.getD, hi] at h
theorem wpAny_invD (Inv : Array Bool → Act → World → Prop)
    (hstep : ∀ listed a w i, Inv listed a w → i ∈ Region.ready md ops listed → wpOp P ops Q i (Inv (listed.setIfInBounds i true)) a w)
    (hend : ∀ listed a w, Inv listed a w → Region.ready md ops listed = [] → Q .normal a w) :
    ∀ (fuel : Nat) (listed : Array Bool) (a : Act) (w : World), listed.toList.count false ≤ fuel → Inv listed a w → wpAny P md ops Q fuel listed a w
  | 0, listed, a, w, hc, hI => by
    have hr : Region.ready md ops listed = [] := by
      rw [List.eq_nil_iff_forall_not_mem]
      intro i hi
      obtain ⟨hl, he⟩ := getD_falseD (mem_readyD.1 hi).2.1
      have hm : false ∈ listed.toList := by rw [← he]; exact Array.getElem_mem_toList hl
      have := List.count_pos_iff.2 hm
      omega
    exact ⟨hr, hend _ _ _ hI hr⟩
  | fuel + 1, listed, a, w, hc, hI => ⟨hend _ _ _ hI, fun i hi => wpOp_mono (fun a' w' h => wpAny_invD Inv hstep hend fuel _ a' w' (by
      obtain ⟨hl, he⟩ := getD_falseD (mem_readyD.1 hi).2.1
      rw [Array.toList_setIfInBounds, List.count_set (by simpa using hl)]
      have hm : false ∈ listed.toList := by rw [← he]; exact Array.getElem_mem_toList hl
      have := List.count_pos_iff.2 hm
      have e2 : (listed.toList[i]'(by simpa using hl)) = false := by simpa using he
      rw [e2]
      rw [if_pos (by rfl), if_neg (by decide)]
      omega) h) (hstep _ _ _ i hI hi)⟩
/-- Where nothing is ready, all is done. -/
theorem ready_nilD {listed : Array Bool} (hs : listed.size = ops.size) (hd : ((List.range ops.size).all fun i => ((ops[i]?).map (·.after.all fun e => decide (e.on < i))).getD true) = true)
    (h : Region.ready md ops listed = []) : ∀ i, i < ops.size → listed.getD i false = true := by
  intro i
  induction i using Nat.strongRecOn with
  | ind i ih =>
    intro hi
    cases hx : listed.getD i false with
    | true => rfl
    | false =>
      exfalso
      have hl : i < listed.size := by omega
      have hx2 : listed.getD i true = false := by simpa [Array.getD, hl] using hx
      have : i ∈ Region.ready md ops listed := by
        rw [mem_readyD]
        refine ⟨hi, hx2, ?_⟩
        have h1 := List.all_eq_true.1 hd i (List.mem_range.2 hi)
        unfold rdyAtD
        rw [Array.getElem?_eq_getElem hi] at h1 ⊢
        simp only [Option.map_some, Option.getD_some, Array.all_eq_true] at h1 ⊢
        intro j hj
        have h2 := of_decide_eq_true (h1 j hj)
        rw [ih _ h2 (by omega), Bool.or_true]
      rw [h] at this
      cases this
end

/-! ### Frames of which some slots are written -/
def frD (A : Act) (f : Nat → Option Value) : Act := { A with tmps := A.tmps.mapIdx fun i v => (f i).getD v }
theorem fr_noneD (A : Act) : frD A (fun _ => none) = A := by
  unfold frD
  have : (A.tmps.mapIdx fun i v => ((none : Option Value)).getD v) = A.tmps := by apply Array.ext <;> simp
  rw [this]
theorem fr_putD {A : Act} {f : Nat → Option Value} (t : Nat) (v : Value) : (frD A f).put (some t) v = frD A (fun i => if i = t then some v else f i) := by
  unfold frD Act.put
  simp only
  congr 1
  apply Array.ext
  · simp
  · intro i h1 h2
    by_cases e : t = i
    · subst e; simp
    · have e' : ¬ i = t := fun h => e h.symm
      rw [Array.getElem_setIfInBounds_ne (by simpa using h2) e]
      simp [e']
theorem fr_put0D {A : Act} {f : Nat → Option Value} (v : Value) : (frD A f).put none v = frD A f := rfl
theorem fr_eval0D {A : Act} {f : Nat → Option Value} {t : Nat} (h : f t = none) : (frD A f).eval (.tmp t) = A.eval (.tmp t) := by
  show (A.tmps.mapIdx fun i v => (f i).getD v).getD t undef = A.tmps.getD t undef
  by_cases ht : t < A.tmps.size
  · simp [Array.getD, ht, h]
  · simp [Array.getD, ht]
theorem fr_eval1D {A : Act} {f : Nat → Option Value} {t : Nat} {v : Value} (h : f t = some v) (ht : t < A.tmps.size) : (frD A f).eval (.tmp t) = v := by
  show (A.tmps.mapIdx fun i v => (f i).getD v).getD t undef = v
  simp [Array.getD, ht, h]

theorem frD_eval {A : Act} {f : Nat → Option Value} {t : Nat} {v : Value} (h : f t = some v) (ht : t < A.tmps.size) : (frD A f).eval (.tmp t) = v := fr_eval1D h ht
theorem frD_eval_out {A : Act} {f : Nat → Option Value} {t : Nat} (h : f t = none) : (frD A f).eval (.tmp t) = A.eval (.tmp t) := fr_eval0D h
theorem dst_uniqD {ops : Array Oper} (hn : (ops.toList.filterMap (·.dst)).Nodup) {i j : Nat} {o o' : Oper} {t : Nat} (hi : ops[i]? = some o) (hj : ops[j]? = some o') (ht : o.dst = some t) (ht' : o'.dst = some t) : i = j := by
  have key : ∀ (l : List Oper), (l.filterMap (·.dst)).Nodup → ∀ (i j : Nat) (o o' : Oper), l[i]? = some o → l[j]? = some o' → o.dst = some t → o'.dst = some t → i = j := by
    intro l
    induction l with
    | nil => intro _ i j o o' h; simp at h
    | cons x l ih =>
      intro hn i j o o' hi hj h1 h2
      have hn' : (l.filterMap (·.dst)).Nodup := by
        rw [List.filterMap_cons] at hn
        split at hn
        · exact hn
        · exact (List.nodup_cons.1 hn).2
      have hx : ∀ (k : Nat) (o'' : Oper), l[k]? = some o'' → o''.dst = some t → x.dst ≠ some t := by
        intro k o'' hk ho'' he
        rw [List.filterMap_cons, he] at hn
        exact (List.nodup_cons.1 hn).1 (List.mem_filterMap.2 ⟨o'', List.mem_of_getElem? hk, ho''⟩)
      cases i with
      | zero =>
        cases j with
        | zero => rfl
        | succ j => simp at hi hj; subst hi; exact absurd h1 (hx j o' hj h2)
      | succ i =>
        cases j with
        | zero => simp at hi hj; subst hj; exact absurd h2 (hx i o hi h1)
        | succ j => simp at hi hj; rw [ih hn' i j o o' hi hj h1 h2]
  exact key ops.toList hn i j o o' (by simpa using hi) (by simpa using hj) ht ht'

/-- The slots that the region writes: each once. -/
def dstsD (ops : Array Oper) : List Nat := ops.toList.filterMap (·.dst)
section
variable {P : Program} {ops : Array Oper} {Q : Exit → Act → World → Prop}
theorem getD_setD {l : Array Bool} {i j : Nat} (h : l.getD j false = true) : (l.setIfInBounds i true).getD j false = true := by
  by_cases hj : j < l.size
  · by_cases e : i = j
    · subst e; simp [Array.getD, hj]
    · simp [Array.getD, hj] at h
      simp [Array.getD, hj, e, h]
  · simp [Array.getD, hj] at h
/-- What stands in a frame under way: what is done has written its value; nothing else is written. -/
structure InvD (ops : Array Oper) (vals : Nat → Value) (S : World → Prop) (l : Array Bool) (f : Nat → Option Value) (W : World) : Prop where
  sz : l.size = ops.size
  st : S W
  dom : ∀ t, t ∉ dstsD ops → f t = none
  val : ∀ i o t, ops[i]? = some o → o.dst = some t → l.getD i false = true → f t = some (vals i)
/-- A drawn region of which each operation yields a known value, whatever else is done. -/
theorem region_det {id : Nat} {A : Act} {w : World} (hm : P.follows .mixedOrders = true) (vals : Nat → Value) (S : World → Prop)
    (hd : ((List.range ops.size).all fun i => ((ops[i]?).map (·.after.all fun e => decide (e.on < i))).getD true) = true)
    (hn : (dstsD ops).Nodup) (hlt : (dstsD ops).all (fun t => decide (t < A.tmps.size)) = true)
    (h0 : S { w with drawn := w.drawn + 1 })
    (hstep : ∀ (i : Nat) (o : Oper), ops[i]? = some o → ∀ (a : Act) (W : World), S W → a.tmps.size = A.tmps.size →
      (∀ e ∈ o.after, Region.binds .any e = true → ∀ o', ops[e.on]? = some o' → ∀ t, o'.dst = some t → a.tmps[t]? = some (vals e.on)) →
      (∀ t, t ∉ dstsD ops → a.tmps[t]? = A.tmps[t]?) →
      ∀ K : Act → World → Prop, (∀ W', S W' → K (a.put o.dst (vals i)) W') → if Region.wanted o (yielded ops a.tmps) = true then Oper.wp P o a W K Q else K (a.put o.dst undef) W)
    (hend : ∀ f W, S W → (∀ t, t ∉ dstsD ops → f t = none) → (∀ i o t, ops[i]? = some o → o.dst = some t → f t = some (vals i)) → Q .normal (frD A f) W) :
    (Code.region id ops true).wp P Q A w := by
  refine wp_region_any hm (wpAny_invD (fun l a W => ∃ f, a = frD A f ∧ InvD ops vals S l f W) ?_ ?_ _ _ _ _ ?_ ?_)
  · rintro l a W i ⟨f, rfl, hI⟩ hi
    obtain ⟨h1, h2, h3⟩ := mem_readyD.1 hi
    obtain ⟨hl, he⟩ := getD_falseD h2
    have ho : ops[i]? = some ops[i] := Array.getElem?_eq_getElem h1
    refine wpOp_step ho (fun K hK => ?_)
    refine hstep i ops[i] ho (frD A f) W hI.st (by simp [frD]) ?_ ?_ K ?_
    · intro e he' hb o' hoe t hdt
      have h4 : l.getD e.on false = true := by
        unfold rdyAtD at h3
        rw [ho] at h3
        simp only [Option.map_some, Option.getD_some, Array.all_eq_true] at h3
        obtain ⟨k, hk, rfl⟩ := Array.mem_iff_getElem.1 he'
        have := h3 k hk
        rw [Bool.or_eq_true] at this
        rcases this with h5 | h5
        · rw [hb] at h5; cases h5
        · exact h5
      have hv := hI.val e.on o' t hoe hdt h4
      have ht : t < A.tmps.size := by
        have := List.all_eq_true.1 hlt t (by unfold dstsD; exact List.mem_filterMap.2 ⟨o', by have := Array.mem_of_getElem? hoe; simpa using this, hdt⟩)
        exact of_decide_eq_true this
      simp only [frD, Array.getElem?_mapIdx, hv, Option.getD_some]
      rw [Array.getElem?_eq_getElem ht]; rfl
    · intro t ht
      simp only [frD, Array.getElem?_mapIdx, hI.dom t ht, Option.getD_none]
      cases A.tmps[t]? <;> rfl
    · intro W' hS
      refine hK _ _ ⟨(match ops[i].dst with | some t => fun k => if k = t then some (vals i) else f k | none => f), ?_, ?_⟩
      · cases hx : ops[i].dst with
        | none => exact fr_put0D _
        | some t => exact fr_putD t _
      · refine ⟨by simpa using hI.sz, hS, ?_, ?_⟩
        · intro t ht
          cases hx : ops[i].dst with
          | none => exact hI.dom t ht
          | some t' =>
            have : t ≠ t' := by
              rintro rfl
              exact ht (by unfold dstsD; exact List.mem_filterMap.2 ⟨ops[i], by simp, hx⟩)
            show (if t = t' then _ else f t) = none
            rw [if_neg this]; exact hI.dom t ht
        · intro j o t hoj hdt hdone
          by_cases hij : j = i
          · subst hij
            rw [ho] at hoj
            cases hoj
            rw [hdt]
            show (if t = t then some (vals j) else f t) = _
            rw [if_pos rfl]
          · have hold : l.getD j false = true := by
              by_cases hjl : j < l.size
              · simp [Array.getD, hjl, Ne.symm hij] at hdone
                simp [Array.getD, hjl, hdone]
              · simp [Array.getD, hjl] at hdone
            have hv := hI.val j o t hoj hdt hold
            cases hx : ops[i].dst with
            | none => exact hv
            | some t' =>
              show (if t = t' then some (vals i) else f t) = _
              have : t ≠ t' := by
                rintro rfl
                exact hij (dst_uniqD hn hoj ho hdt hx)
              rw [if_neg this]; exact hv
  · rintro l a W ⟨f, rfl, hI⟩ hr
    have hall := ready_nilD hI.sz hd hr
    refine hend f W hI.st hI.dom (fun i o t ho ht => hI.val i o t ho ht (hall i ?_))
    exact (Array.getElem?_eq_some_iff.1 ho).1
  · rw [Array.toList_replicate]
    exact Nat.le_trans List.count_le_length (by simp)
  · exact ⟨_, (fr_noneD A).symm, by simp, h0, fun _ _ => rfl, fun i o t ho ht hx => by
      by_cases hjl : i < ops.size <;> simp [Array.getD, hjl] at hx⟩

/-- The writing of slots, one after the other. -/
def putsD (A : Act) (L : List (Nat × Value)) : Act := L.foldl (fun a p => a.put (some p.1) p.2) A
def updD (g : Nat → Option Value) (p : Nat × Value) : Nat → Option Value := fun k => if k = p.1 then some p.2 else g k
theorem putsD_fr {A : Act} : ∀ (L : List (Nat × Value)) (g : Nat → Option Value), L.foldl (fun a p => a.put (some p.1) p.2) (frD A g) = frD A (L.foldl updD g)
  | [], _ => rfl
  | p :: L, g => by
    rw [List.foldl_cons, List.foldl_cons, fr_putD]
    exact putsD_fr L _
theorem updD_out : ∀ (L : List (Nat × Value)) (g : Nat → Option Value) (t : Nat), t ∉ L.map (·.1) → L.foldl updD g t = g t
  | [], _, _, _ => rfl
  | p :: L, g, t, h => by
    rw [List.map_cons, List.mem_cons, not_or] at h
    rw [List.foldl_cons, updD_out L _ t h.2]
    show (if t = p.1 then some p.2 else g t) = g t
    rw [if_neg h.1]
theorem updD_in : ∀ (L : List (Nat × Value)) (g : Nat → Option Value) (i : Nat) (h : i < L.length), (L.map (·.1)).Nodup → L.foldl updD g L[i].1 = some L[i].2
  | [], _, i, h, _ => by simp at h
  | p :: L, g, 0, _, hn => by
    rw [List.foldl_cons]
    show L.foldl updD (updD g p) p.1 = some p.2
    rw [updD_out L _ p.1 (List.nodup_cons.1 hn).1]
    show (if p.1 = p.1 then some p.2 else g p.1) = some p.2
    rw [if_pos rfl]
  | p :: L, g, i + 1, h, hn => by
    rw [List.foldl_cons]
    exact updD_in L _ i (by simpa using h) (List.nodup_cons.1 hn).2
/-- As region_det, with a list of what the slots hold: for a region each of whose operations has a slot. -/
theorem region_detL {id : Nat} {A : Act} {w : World} (hm : P.follows .mixedOrders = true) (L : List (Nat × Value)) (S : World → Prop)
    (hL : L.map (fun p => some p.1) = ops.toList.map (·.dst))
    (hd : ((List.range ops.size).all fun i => ((ops[i]?).map (·.after.all fun e => decide (e.on < i))).getD true) = true)
    (hnb : decide (L.map (·.1)).Nodup = true) (hlt : (L.map (·.1)).all (fun t => decide (t < A.tmps.size)) = true)
    (h0 : S { w with drawn := w.drawn + 1 })
    (hstep : ∀ (i : Nat) (o : Oper), ops[i]? = some o → ∀ (a : Act) (W : World), S W →
      (∀ e ∈ o.after, Region.binds .any e = true → ∀ p, L[e.on]? = some p → a.tmps[p.1]? = some p.2) →
      (∀ t, (L.map (·.1)).contains t = false → a.tmps[t]? = A.tmps[t]?) →
      ∀ K : Act → World → Prop, (∀ W', S W' → K (a.put o.dst ((L[i]?.map (·.2)).getD undef)) W') → if Region.wanted o (yielded ops a.tmps) = true then Oper.wp P o a W K Q else K (a.put o.dst undef) W)
    (hend : ∀ W, S W → Q .normal (putsD A L) W) :
    (Code.region id ops true).wp P Q A w := by
  have hn := of_decide_eq_true hnb
  have hlen : L.length = ops.size := by
    have := congrArg List.length hL
    simpa using this
  have hdst : dstsD ops = L.map (·.1) := by
    unfold dstsD
    have h1 : ∀ (l : List Oper) (M : List (Nat × Value)), M.map (fun p => some p.1) = l.map (·.dst) → l.filterMap (·.dst) = M.map (·.1) := by
      intro l
      induction l with
      | nil => intro M h; cases M with
        | nil => rfl
        | cons p M => simp at h
      | cons o l ih =>
        intro M h
        cases M with
        | nil => simp at h
        | cons p M =>
          simp only [List.map_cons, List.cons.injEq] at h
          rw [List.filterMap_cons, ← h.1, ih M h.2]; rfl
    exact h1 _ _ hL
  have hat : ∀ (i : Nat) (o : Oper) (t : Nat), ops[i]? = some o → o.dst = some t → ∃ v, L[i]? = some (t, v) := by
    intro i o t ho ht
    have h1 := congrArg (fun l => l[i]?) hL
    simp only [List.getElem?_map] at h1
    rw [show ops.toList[i]? = some o by simpa using ho] at h1
    cases hx : L[i]? with
    | none => rw [hx] at h1; simp at h1
    | some p =>
      rw [hx] at h1
      simp only [Option.map_some, Option.some.injEq] at h1
      rw [ht] at h1
      obtain ⟨a, b⟩ := p
      cases h1
      exact ⟨b, rfl⟩
  refine region_det hm (fun i => (L[i]?.map (·.2)).getD undef) S hd (by rw [hdst]; exact hn) (by rw [hdst]; exact hlt) h0 ?_ ?_
  · intro i o ho a W hS hz hdep hout K hK
    refine hstep i o ho a W hS ?_ (fun t ht => hout t (by rw [hdst]; intro hm; rw [List.contains_iff_mem.2 hm] at ht; cases ht)) K hK
    intro e he hb p hp
    have hel : e.on < ops.size := by rw [← hlen]; exact (List.getElem?_eq_some_iff.1 hp).1
    have ho' : ops[e.on]? = some ops[e.on] := Array.getElem?_eq_getElem hel
    have hdp : ops[e.on].dst = some p.1 := by
      have h1 := congrArg (fun l => l[e.on]?) hL
      simp only [List.getElem?_map] at h1
      rw [hp, show ops.toList[e.on]? = some ops[e.on] by rw [Array.getElem?_toList]; exact ho'] at h1
      simpa using h1.symm
    have := hdep e he hb _ ho' p.1 hdp
    rw [this]
    show some ((L[e.on]?.map (·.2)).getD undef) = _
    rw [hp]; rfl
  · intro f W hS hout hval
    have hf : f = L.foldl updD (fun _ => none) := by
      funext t
      by_cases ht : t ∈ L.map (·.1)
      · obtain ⟨i, hi, he⟩ := List.mem_iff_getElem.1 ht
        have hi' : i < L.length := by simpa using hi
        have h1 := updD_in L (fun _ => none) i hi' hn
        have e2 : L[i].1 = t := by simpa using he
        rw [e2] at h1
        rw [h1]
        have hio : i < ops.size := by omega
        have ho' : ops[i]? = some ops[i] := Array.getElem?_eq_getElem hio
        have hdp : ops[i].dst = some t := by
          have h1 := congrArg (fun l => l[i]?) hL
          simp only [List.getElem?_map] at h1
          rw [List.getElem?_eq_getElem hi', show ops.toList[i]? = some ops[i] by rw [Array.getElem?_toList]; exact ho'] at h1
          simp only [Option.map_some, Option.some.injEq] at h1
          rw [← h1, e2]
        have := hval i _ t ho' hdp
        rw [this, List.getElem?_eq_getElem hi']; rfl
      · rw [hout t (by rw [hdst]; exact ht), updD_out L _ t ht]
    have := hend W hS
    have e : L.foldl (fun a p => a.put (some p.1) p.2) (frD A (fun _ => none)) = frD A f := by rw [putsD_fr, ← hf]
    rw [fr_noneD] at e
    unfold putsD at this
    rw [e] at this
    exact this
end
end Go.Proofs.YtaclgmhinljkbaaGreatDoor
