/-
  Walks: the statement GraphEssential (door seat).
-/
import Derived.Test.YtkknkbdkokdbfaaDoorLb
import Derived.Test.YtkknkbdkokdbfaaDoorHr
import Derived.Test.YtkknkbdkokdbfaaDoorPe
import Derived.Test.YtkknkbdkokdbfaaDoorHf
import Derived.Maps.AppendAt
namespace Go.Proofs.YtkknkbdkokdbfaaDoor
open Go.RowKit Go.Sort Go.Shelf Go.Lib

set_option maxRecDepth 100000 in
theorem lawGE1_any (B : Nat) (t : Int) (x : Ed) (W : World) (hc : W.cell? ⟨B, 0, none⟩ = some (.int .i64 t)) :
    Calls Tryd.prog 34 #[.agg #[.int .i64 x.f, .int .i64 x.l, .int .i64 x.t], .pointer (some ⟨B, 0, none⟩)] W fun e w' => e = .returned (.bool (x.f == t)) ∧ RowKit.Below W.heap.size W w' := by
  have hB : RowKit.Below W.heap.size W (W.alloc (.cells #[.int .i64 x.f, .int .i64 x.l, .int .i64 x.t] 34)) := (RowKit.Below.refl _ _).alloc (Nat.le_refl _) _
  have hlt := World.block_lt_of_cell? W _ hc
  have hc' := (hB.cell (p := ⟨B, 0, none⟩) hlt).trans hc
  go_enter Tryd.func34, Tryd.ntmps34
  go_wp2
  go_ret
  exact ⟨rfl, hB⟩
set_option maxRecDepth 100000 in
theorem lawGE2_any (B : Nat) (t : Int) (x : Ed) (W : World) (hc : W.cell? ⟨B, 0, none⟩ = some (.int .i64 t)) :
    Calls Tryd.prog 35 #[.agg #[.int .i64 x.f, .int .i64 x.l, .int .i64 x.t], .pointer (some ⟨B, 0, none⟩)] W fun e w' => e = .returned (.bool (x.t == t)) ∧ RowKit.Below W.heap.size W w' := by
  have hB : RowKit.Below W.heap.size W (W.alloc (.cells #[.int .i64 x.f, .int .i64 x.l, .int .i64 x.t] 34)) := (RowKit.Below.refl _ _).alloc (Nat.le_refl _) _
  have hlt := World.block_lt_of_cell? W _ hc
  have hc' := (hB.cell (p := ⟨B, 0, none⟩) hlt).trans hc
  go_enter Tryd.func35, Tryd.ntmps35
  go_wp2
  go_ret
  exact ⟨rfl, hB⟩
theorem RetEs.open {G : Gr} {l : List Int} {k : Int} {w w' : World} {e : Ending} (h : RetEs G l k w e w') :
    ∃ p c q d, e = .returned (.tuple #[(.agg #[.int .i64 G.q, .int .i64 G.n, .slice p G.es.length c]), .slice q l.length d, .int .i64 k]) ∧ Sg 3 w' edE p G.es ∧ Sl w' (Value.int .i64) q l ∧ RowKit.Below w.heap.size w w' := by
  obtain ⟨p, m, c, q, d, rfl, h1, h2, hB⟩ := h
  obtain ⟨p', c', hv, hs, _⟩ := own_sg h1
  cases hv
  obtain ⟨q', d', hq, hi⟩ := own_sl h2
  cases hq
  exact ⟨p, c, q, d, rfl, hs, hi, hB⟩

/-- Two slices that share no block. -/
def Dj (u v : Value) : Prop := ∀ g, u.ownBlock = some g → v.ownBlock ≠ some g
theorem Dj.symm {u v : Value} (h : Dj u v) : Dj v u := fun g e e' => h g e' e
theorem Dj.kept {W W' : World} {u v : Value} {B n size : Nat} {xs : List Value} (h : Dj u v) (hg : W.grownBy W' u.ownBlock) (ho : W.ownsRow B 3 size v n xs) : W'.ownsRow B 3 size v n xs := by
  refine ho.kept hg ?_
  cases e : v.ownBlock with
  | none => exact .inl rfl
  | some g => exact .inr (fun e' => h g e'.symm e)
theorem Dj.step {W : World} {u u' v : Value} {B n size : Nat} {xs : List Value} (h : Dj u v) (hu : u'.ownBlock = u.ownBlock ∨ u'.ownBlock = some W.heap.size) (ho : W.ownsRow B 3 size v n xs) : Dj u' v := fun g e e' => by
  rcases hu with hu | hu
  · exact h g (hu ▸ e) e'
  · rw [hu] at e
    cases e
    have := (ho.lt _ e').2
    omega
theorem nodup_le : ∀ (l m : List Int), l.Nodup → (∀ x ∈ l, x ∈ m) → l.length ≤ m.length
  | [], m, _, _ => by simp
  | x :: l, m, hn, hs => by
    obtain ⟨h1, h2⟩ := List.nodup_cons.1 hn
    have hx := hs x List.mem_cons_self
    have := nodup_le l (m.erase x) h2 (fun y hy => (List.mem_erase_of_ne (fun (e : y = x) => h1 (by subst e; exact hy))).2 (hs y (List.mem_cons_of_mem _ hy)))
    rw [List.length_erase_of_mem hx] at this
    have hp := List.length_pos_of_mem hx
    simp only [List.length_cons]
    omega
/-- What has been reached: each once, by a path. -/
structure Rd (G : Gr) (a : Int) (R : List Int) : Prop where
  nd : R.Nodup
  ok : ∀ t ∈ R, (0 ≤ t ∧ t < G.n) ∧ Rch G.es a t
theorem Rd.len {G : Gr} {a : Int} {R : List Int} (h : Rd G a R) (h0 : 0 ≤ G.n) (hn : G.n ≤ 10) : R.length ≤ 10 := by
  have := nodup_le R (upto G.n.toNat) h.nd (fun x hx => mem_upto.2 (by have := (h.ok x hx).1; omega))
  rw [upto_len] at this
  omega
theorem Rd.snoc {G : Gr} {a : Int} {R : List Int} (h : Rd G a R) {x : Ed} (hx : x ∈ G.es) (hb : 0 ≤ x.t ∧ x.t < G.n) (hf : x.f = a ∨ Rch G.es a x.f) (ht : x.t ∉ R) : Rd G a (R ++ [x.t]) := by
  have hr : Rch G.es a x.t := by
    rcases hf with e | e
    · exact .one hx e
    · exact .more e hx
  refine ⟨?_, fun t h' => ?_⟩
  · rw [List.nodup_append]
    refine ⟨h.nd, by simp, fun u hu v hv => ?_⟩
    rw [List.mem_singleton] at hv
    subst hv
    exact fun e => ht (e ▸ hu)
  · rcases List.mem_append.1 h' with h' | h'
    · exact h.ok t h'
    · rw [List.mem_singleton] at h'; subst h'; exact ⟨hb, hr⟩
def bmu (r n : Value) : Nat := 2 * (20 - slLen r) + min 1 (slLen n)

set_option maxRecDepth 100000 in
set_option maxHeartbeats 4000000 in
theorem lawGEssential_any (G : Gr) (p : Option Addr) (c : Nat) (s : Int) (w : World) (hin : Sg 3 w edE p G.es) (hl : G.es.length ≤ 9223372036854775807) (hs : 0 ≤ s ∧ s ≤ 255) :
    Calls Tryd.prog 8 #[(.agg #[.int .i64 G.q, .int .i64 G.n, .slice p G.es.length c]), .int .u8 s] w fun e w' => e = .returned (.bool true) ∧ RowKit.Below w.heap.size w w' := by
  have HIN := hidI hin
  clear hin
  have b0 : VRow (w.alloc (.cells #[.int .i64 G.q, .int .i64 G.n, .slice p G.es.length c] 24)) w.heap.size 24 [.int .i64 G.q, .int .i64 G.n, .slice p G.es.length c] := VRow.new w _ _
  have x0 : RowKit.Below w.heap.size w (w.alloc (.cells #[.int .i64 G.q, .int .i64 G.n, .slice p G.es.length c] 24)) := (RowKit.Below.refl _ _).alloc (Nat.le_refl _) _
  cases hf : fineB G
  · have HF := hidI hf
    clear hf
    go_enter Tryd.func8, Tryd.ntmps8
    go_wp2_with fail
    refine (fine_any G p c _ (HIN.out.below x0) hl).mono ?_
    rw [HF.out]
    rintro e w1 ⟨rfl, hB1⟩
    have x1 := x0.trans (hB1.mono x0.size)
    go_wp2_with fail
    refine (awake_any w1).mono ?_
    rintro e w2 ⟨rfl, hB2⟩
    go_wp2
    go_ret
    exact ⟨rfl, x1.trans (hB2.mono x1.size)⟩
  · obtain ⟨hv, hes, hn10⟩ := fine_ok hf
    have HF := hidI hf; have HV := hidI hv
    have h3 := hv.n1
    clear hf
    have hst := essT_st hv
    have HST := hidI hst
    have hTl := hst.len hv.n1
    have HE1 : Hid (essA G = (partA G (essT G), essT G, 0)) := essA_t hv
    have HE2 : Hid (essA (partA G (essT G)) = (partA G (essT G), upto (essT G).length, 0)) := ess_ess hv
    have HK1 : Hid (keepA G (essT G) = (partA G (essT G), 0)) := keepA_ok hv hst
    have HPE : Hid (∀ t : Int, 0 ≤ t → t < (partA G (essT G)).n → (∃ y ∈ (partA G (essT G)).es, y.t = t) ∧ ∃ y ∈ (partA G (essT G)).es, y.f = t) := fun t h0 h1 => ess_edges hv h0 h1
    have HPN : Hid ((partA G (essT G)).n = ((essT G).length : Int)) := rfl
    have hPl : (partA G (essT G)).es.length ≤ 30 := Nat.le_trans (partE_len _ _) hes
    have HCL : Hid (∀ a, Rch G.es a a → a ∈ essT G) := fun a h => closed_ess hv h
    clear hv hst
    generalize partA G (essT G) = P at *
    generalize essT G = T at *
    have hTl2 : T.length ≤ 10 := by omega
    go_enter Tryd.func8, Tryd.ntmps8
    go_wp2_with fail
    refine (fine_any G p c _ (HIN.out.below x0) hl).mono ?_
    rw [HF.out]
    rintro e w1 ⟨rfl, hB1⟩
    have b1 := b0.below hB1 b0.lt
    have x1 := x0.trans (hB1.mono x0.size)
    clear hB1 b0 x0
    have f0 := b1.at 0 rfl; have f1 := b1.at 1 rfl; have f2 := b1.at 2 rfl
    have hE := gEss_any G p c w1 (HIN.out.below x1) (by omega)
    rw [HE1.out] at hE
    have HE := hidI hE
    clear hE
    go_wp2_with fail
    refine HE.out.mono ?_
    rintro e v2 hret
    obtain ⟨p2, c2, q2, d2, rfl, s2, i2, hB2⟩ := hret.open
    have hA2 : RowKit.Below w1.heap.size w1 (v2.alloc (.cells #[.int .i64 P.q, .int .i64 P.n, .slice p2 P.es.length c2] 24)) := hB2.alloc hB2.size _
    have b2 := b1.below hA2 b1.lt
    have x2 := x1.trans (hA2.mono x1.size)
    have s2' := s2.below ((RowKit.Below.refl _ v2).alloc (Nat.le_refl _) (.cells #[.int .i64 P.q, .int .i64 P.n, .slice p2 P.es.length c2] 24))
    have i2' := i2.below ((RowKit.Below.refl _ v2).alloc (Nat.le_refl _) (.cells #[.int .i64 P.q, .int .i64 P.n, .slice p2 P.es.length c2] 24))
    have y2 : VRow (v2.alloc (.cells #[.int .i64 P.q, .int .i64 P.n, .slice p2 P.es.length c2] 24)) v2.heap.size 24 [.int .i64 P.q, .int .i64 P.n, .slice p2 P.es.length c2] := VRow.new v2 _ _
    clear hA2 hB2 b1 x1 f0 f1 f2 s2 i2 HE hret
    go_upto_region 4 with fail
    generalize v2.alloc (.cells #[.int .i64 P.q, .int .i64 P.n, .slice p2 P.es.length c2] 24) = w2 at *
    generalize v2.heap.size = B2 at *
    have hE := gEss_any P p2 c2 w2 s2' (by omega)
    rw [HE2.out] at hE
    have HE := hidI hE
    clear hE
    have g0 := y2.at 0 rfl; have g1 := y2.at 1 rfl; have g2 := y2.at 2 rfl
    go_wp2_with fail
    refine HE.out.mono ?_
    rintro e v3 hret
    obtain ⟨p3, c3, q3, d3, rfl, s3, i3, hB3⟩ := hret.open
    rw [upto_len]
    have hA3 : RowKit.Below w2.heap.size w2 (v3.alloc (.cells #[.int .i64 P.q, .int .i64 P.n, .slice p3 P.es.length c3] 24)) := hB3.alloc hB3.size _
    have b3 := b2.below hA3 b2.lt
    have x3 := x2.trans (hA3.mono x2.size)
    have s23 := s2'.below hA3; have i23 := i2'.below hA3
    have y23 := y2.below hA3 y2.lt
    have s3' := s3.below ((RowKit.Below.refl _ v3).alloc (Nat.le_refl _) (.cells #[.int .i64 P.q, .int .i64 P.n, .slice p3 P.es.length c3] 24))
    have y3 : VRow (v3.alloc (.cells #[.int .i64 P.q, .int .i64 P.n, .slice p3 P.es.length c3] 24)) v3.heap.size 24 [.int .i64 P.q, .int .i64 P.n, .slice p3 P.es.length c3] := VRow.new v3 _ _
    clear hA3 hB3 b2 x2 g0 g1 g2 s2' i2' HE hret s3 i3 y2
    go_upto_region 5 with fail
    generalize v3.alloc (.cells #[.int .i64 P.q, .int .i64 P.n, .slice p3 P.es.length c3] 24) = w3 at *
    generalize v3.heap.size = B3 at *
    have hK := gKeep_any G p c T q2 d2 w3 (HIN.out.below x3) i23 (by omega) (by omega)
    rw [HK1.out] at hK
    have HK := hidI hK
    clear hK
    have f0 := b3.at 0 rfl; have f1 := b3.at 1 rfl; have f2 := b3.at 2 rfl
    go_wp2_with fail
    refine HK.out.mono ?_
    rintro e v4 ⟨p4, c4, rfl, s4, _, hB4⟩
    have hA4 : RowKit.Below w3.heap.size w3 (v4.alloc (.cells #[.int .i64 P.q, .int .i64 P.n, .slice p4 P.es.length c4] 24)) := hB4.alloc hB4.size _
    have b4 := b3.below hA4 b3.lt
    have x4 := x3.trans (hA4.mono x3.size)
    have s24 := s23.below hA4; have i24 := i23.below hA4
    have y24 := y23.below hA4 y23.lt
    have s34 := s3'.below hA4
    have y34 := y3.below hA4 y3.lt
    have s4' := s4.below ((RowKit.Below.refl _ v4).alloc (Nat.le_refl _) (.cells #[.int .i64 P.q, .int .i64 P.n, .slice p4 P.es.length c4] 24))
    have y4 : VRow (v4.alloc (.cells #[.int .i64 P.q, .int .i64 P.n, .slice p4 P.es.length c4] 24)) v4.heap.size 24 [.int .i64 P.q, .int .i64 P.n, .slice p4 P.es.length c4] := VRow.new v4 _ _
    clear hA4 hB4 b3 x3 f0 f1 f2 s23 i23 HK s4 y23 s3' y3
    go_upto_region 6 with fail
    generalize v4.alloc (.cells #[.int .i64 P.q, .int .i64 P.n, .slice p4 P.es.length c4] 24) = w4 at *
    generalize v4.heap.size = B4 at *
    have g0 := y24.at 0 rfl; have g1 := y24.at 1 rfl; have g2 := y24.at 2 rfl
    have k0 := y34.at 0 rfl; have k1 := y34.at 1 rfl; have k2 := y34.at 2 rfl
    go_wp2_with fail
    refine (gSame_s P P p3 p2 c3 c2 true w4 (sameG_refl _) s34 s24 (by omega) (by omega)).mono ?_
    rintro e w5 ⟨rfl, hB5⟩
    have b5 := b4.below hB5 b4.lt
    have x5 := x4.trans (hB5.mono x4.size)
    have s25 := s24.below hB5; have i25 := i24.below hB5
    have y25 := y24.below hB5 y24.lt
    have s45 := s4'.below hB5
    have y45 := y4.below hB5 y4.lt
    clear g0 g1 g2 k0 k1 k2 hB5 b4 x4 s24 i24 y24 s34 y34 s4' y4
    have g0 := y25.at 0 rfl; have g1 := y25.at 1 rfl; have g2 := y25.at 2 rfl
    have k0 := y45.at 0 rfl; have k1 := y45.at 1 rfl; have k2 := y45.at 2 rfl
    have hn1 : ((T.length : Int) == P.n) = true := by rw [HPN.out]; simp
    go_wp2_with fail
    refine (gSame_s P P p4 p2 c4 c2 true w5 (sameG_refl _) s45 s25 (by omega) (by omega)).mono ?_
    rintro e w6 ⟨rfl, hB6⟩
    have b6 := b5.below hB6 b5.lt
    have x6 := x5.trans (hB6.mono x5.size)
    have s26 := s25.below hB6; have i26 := i25.below hB6
    have y26 := y25.below hB6 y25.lt
    clear g0 g1 g2 k0 k1 k2 hB6 b5 x5 s25 i25 y25 s45 y45 hn1
    have g1 := y26.at 1 rfl
    go_wp2
    rotate_left
    · rename_i hh
      exact absurd HPN.out.symm hh
    rename_i hh K1 hK1
    clear hh g1
    go_loopw [80] (fun iv wr => ∃ k : Nat, k ≤ T.length ∧ iv = .int .i64 k ∧ RowKit.Below w6.heap.size w6 wr) (fun iv _ => T.length - (intOf iv).toNat)
    case atStart => exact ⟨0, by omega, rfl, RowKit.Below.refl _ _⟩
    case round =>
      obtain ⟨k, hk, rfl, hB⟩ := hrel
      have y7 := y26.below hB y26.lt
      by_cases hlt : (k : Int) < P.n
      · have hkl : k < T.length := by have := HPN.out; omega
        obtain ⟨⟨e1, he1, ht1⟩, e2, he2, ht2⟩ := HPE.out (k : Int) (by omega) hlt
        have hP0 : 0 < P.es.length := List.length_pos_of_mem he1
        have ha1 : P.es.any (fun x => x.f == (k : Int)) = true := List.any_eq_true.2 ⟨e2, he2, by simpa using ht2⟩
        have ha2 : P.es.any (fun x => x.t == (k : Int)) = true := List.any_eq_true.2 ⟨e1, he1, by simpa using ht1⟩
        have HA1 := hidI ha1; have HA2 := hidI ha2
        clear ha1 ha2 ht1 ht2 he1 he2
        have eg1 : ∀ args w, (callFunc 34 args).run Tryd.prog w = .ok (.enter 34 args) w := enters_of Tryd.func34 (by kernel_rfl) rfl
        have eg2 : ∀ args w, (callFunc 35 args).run Tryd.prog w = .ok (.enter 35 args) w := enters_of Tryd.func35 (by kernel_rfl) rfl
        have hBA := hB.alloc hB.size (.cells #[.int .i64 (k : Int)] 3)
        have bk : VRow (wr.alloc (.cells #[.int .i64 (k : Int)] 3)) wr.heap.size 3 [.int .i64 (k : Int)] := VRow.new wr _ _
        have yA := y7.alloc (.cells #[.int .i64 (k : Int)] 3)
        have sA := s26.below hBA
        clear y7
        go_upto_region 11 with fail
        generalize wr.alloc (.cells #[.int .i64 (k : Int)] 3) = V at *
        generalize wr.heap.size = Bk at *
        have f2 := yA.at 2 rfl
        go_wp2_with fail
        refine (containsFE_any (fun x => x.f == (k : Int)) 34 #[.pointer (some ⟨Bk, 0, none⟩)] eg1 P.es p2 c2 V (fun W x hb => lawGE1_any Bk (k : Int) x W ((hb.cell (p := ⟨Bk, 0, none⟩) bk.lt).trans (bk.at 0 rfl)) |>.mono fun e w' ⟨h1, h2⟩ => ⟨h1, hb.trans (h2.mono hb.size)⟩) sA hP0 (by omega)).mono ?_
        rw [HA1.out]
        rintro e V2 ⟨rfl, hV2⟩
        have hB2 := hBA.trans (hV2.mono hBA.size)
        have yB := yA.below hV2 yA.lt
        have bk2 := bk.below hV2 bk.lt
        have sB := sA.below hV2
        clear f2 yA bk sA hBA hV2
        have f2 := yB.at 2 rfl
        go_wp2_with fail
        refine (containsFE_any (fun x => x.t == (k : Int)) 35 #[.pointer (some ⟨Bk, 0, none⟩)] eg2 P.es p2 c2 V2 (fun W x hb => lawGE2_any Bk (k : Int) x W ((hb.cell (p := ⟨Bk, 0, none⟩) bk2.lt).trans (bk2.at 0 rfl)) |>.mono fun e w' ⟨h1, h2⟩ => ⟨h1, hb.trans (h2.mono hb.size)⟩) sB hP0 (by omega)).mono ?_
        rw [HA2.out]
        rintro e V3 ⟨rfl, hV3⟩
        have hB3 := hB2.trans (hV3.mono hB2.size)
        clear f2 yB bk2 sB hB2 hV3
        go_wp2
        go_roundw
        case rel => exact ⟨k + 1, by omega, by go_num, hB3⟩
        case measure => simp [intOf]; omega
      · have b7 := b6.below hB b6.lt
        have x7 := x6.trans (hB.mono x6.size)
        have i7 := i26.below hB
        obtain ⟨wo, rfl⟩ : ∃ wo : World, wo = wr := ⟨_, rfl⟩
        clear y7 b6 x6 i26 s26 y26
        have f1 := b7.at 1 rfl
        by_cases hn : G.n = 0
        · have hnb : (G.n == 0) = true := by simpa using hn
          clear hn
          go_wp2_with fail
          refine (awake_any wo).mono ?_
          rintro e w8 ⟨rfl, hB8⟩
          go_wp2
          go_ret
          exact ⟨rfl, x7.trans (hB8.mono x7.size)⟩
        · have hnb : (G.n == 0) = false := by simpa using hn
          have hSb : 0 ≤ s % G.n ∧ s % G.n < G.n := ⟨Int.emod_nonneg _ hn, Int.emod_lt_of_pos _ (by omega)⟩
          clear hn
          go_wp2_with fail
          generalize s % G.n = A at *
          have hB8 : RowKit.Below wo.heap.size wo (wo.alloc (.cells #[.int .i64 A] 3)) := (RowKit.Below.refl _ _).alloc (Nat.le_refl _) _
          have hnow : (wo.alloc (.cells #[.int .i64 A] 3)).ownsRow wo.heap.size 3 1 (.slice (some ⟨wo.heap.size, 0, none⟩) 1 1) 1 ([A].map (Value.int .i64)) := own_new wo wo.heap.size [.int .i64 A] 3 (Nat.le_refl _) (by simp [maxLen])
          clear f1
          obtain ⟨i0, hi0, hz0, hz1, hz3⟩ := info_parts infoIn
          generalize wo.alloc (.cells #[.int .i64 A] 3) = w8 at *
          go_loopw [15, 16] (fun rv nv wr => ∃ R N : List Int, wr.ownsRow wo.heap.size 3 1 rv R.length (R.map (Value.int .i64)) ∧ wr.ownsRow wo.heap.size 3 1 nv N.length (N.map (Value.int .i64)) ∧ Dj rv nv ∧ Hid (Rd G A R) ∧ Hid (∀ t ∈ N, t = A ∨ Rch G.es A t) ∧ RowKit.Below wo.heap.size wo wr ∧ N.length ≤ 10) (fun rv nv _ => bmu rv nv)
          case atStart => exact ⟨[], [A], World.ownsRow_nil _ _ _ _, hnow, fun g e => by simp [Value.ownBlock] at e, ⟨by simp, by simp⟩, fun t ht => .inl (by simpa using ht), hB8, by simp⟩
          case round =>
            obtain ⟨R, N, hr, hn, hdj, HRD, HNW, hB, hN10⟩ := hrel
            obtain ⟨pr, cr, rfl, hsr⟩ := own_sl hr
            obtain ⟨pn, cn, rfl, hsn⟩ := own_sl hn
            have hRl := HRD.out.len h3 hn10
            have xr := x7.trans (hB.mono x7.size)
            have br := b7.below hB b7.lt
            obtain ⟨wu, rfl⟩ : ∃ wu : World, wu = wr := ⟨_, rfl⟩
            by_cases hnz : 0 < N.length
            · have hnz' : (0 : Int) < (N.length : Int) := by omega
              have f2 := br.at 2 rfl
              go_wp2
              clear f2
              go_loopw [15, 17, 113] (fun rv xv iv wx => ∃ (k : Nat) (R2 X : List Int), k ≤ G.es.length ∧ iv = .int .i64 k ∧ wx.ownsRow wo.heap.size 3 1 rv R2.length (R2.map (Value.int .i64)) ∧ wx.ownsRow wo.heap.size 3 1 xv X.length (X.map (Value.int .i64)) ∧ wx.ownsRow wo.heap.size 3 1 (.slice pn N.length cn) N.length (N.map (Value.int .i64)) ∧
                  Dj rv (.slice pn N.length cn) ∧ Dj xv (.slice pn N.length cn) ∧ Dj rv xv ∧ Hid (Rd G A R2) ∧ Hid (∀ t ∈ X, t = A ∨ Rch G.es A t) ∧ Hid (R2.length = R.length + X.length) ∧ RowKit.Below wo.heap.size wo wx) (fun _ _ iv _ => G.es.length - (intOf iv).toNat)
              case atStart => exact ⟨0, R, [], by omega, rfl, hr, World.ownsRow_nil _ _ _ _, hn, hdj, fun g e => by simp [Value.ownBlock] at e, fun g e e' => by simp [Value.ownBlock] at e', HRD, fun t ht => by simp at ht, rfl, hB⟩
              case round =>
                clear hr hn hdj hsr hsn
                obtain ⟨k, R2, X, hk, rfl, hr, hx, hn, d1, d2, d3, HRD2, HXX, HLN, hBx⟩ := hrel
                have xx := x7.trans (hBx.mono x7.size)
                have hbz := hBx.size
                by_cases hlt : k < G.es.length
                · obtain ⟨b3, o3, rfl, hb3, z0, z1, z2⟩ := (HIN.out.below xx).get3 k hlt rfl
                  have HX : Hid (G.es[k] ∈ G.es ∧ 0 ≤ G.es[k].t ∧ G.es[k].t < G.n) := ⟨List.getElem_mem hlt, by have := HV.out.ins _ (List.getElem_mem hlt); omega⟩
                  generalize G.es[k] = x at *
                  obtain ⟨pr2, cr2, rfl, _⟩ := own_sl hr
                  obtain ⟨px, cx, rfl, _⟩ := own_sl hx
                  have hR2l := HRD2.out.len h3 hn10
                  have hXl : X.length ≤ 10 := by have := HLN.out; omega
                  have y0 : VRow (wr.alloc (.cells #[.int .i64 x.f, .int .i64 x.l, .int .i64 x.t] 34)) wr.heap.size 34 [.int .i64 x.f, .int .i64 x.l, .int .i64 x.t] := VRow.new wr _ _
                  have hrA := hr.alloc (.cells #[.int .i64 x.f, .int .i64 x.l, .int .i64 x.t] 34)
                  have hxA := hx.alloc (.cells #[.int .i64 x.f, .int .i64 x.l, .int .i64 x.t] 34)
                  have hnA := hn.alloc (.cells #[.int .i64 x.f, .int .i64 x.l, .int .i64 x.t] 34)
                  have hBA := hBx.alloc hbz (.cells #[.int .i64 x.f, .int .i64 x.l, .int .i64 x.t] 34)
                  have hre : ∀ j, (Value.slice pr2 R2.length cr2).ownBlock = some j → wo.heap.size ≤ j ∧ j < wr.heap.size := fun j e => hr.lt j e
                  have hxe : ∀ j, (Value.slice px X.length cx).ownBlock = some j → wo.heap.size ≤ j ∧ j < wr.heap.size := fun j e => hx.lt j e
                  go_upto_region 24 with fail
                  clear hr hx hn z0 z1 z2
                  obtain ⟨W1, hW1⟩ : ∃ W1, wr.alloc (.cells #[.int .i64 x.f, .int .i64 x.l, .int .i64 x.t] 34) = W1 := ⟨_, rfl⟩
                  rw [hW1] at y0 hrA hxA hnA hBA ⊢
                  clear hW1
                  have u0 := y0.at 0 rfl; have u2 := y0.at 2 rfl
                  obtain ⟨_, _, hpe, hsn1⟩ := own_sl hnA
                  cases hpe
                  obtain ⟨_, _, hpe, hsr1⟩ := own_sl hrA
                  cases hpe
                  go_wp2_with fail
                  refine (containsIn_any N pn cn x.f W1 hsn1 (by omega)).mono ?_
                  rintro e w9 ⟨rfl, rfl⟩
                  by_cases hfN : x.f ∈ N
                  · rw [decide_eq_true hfN]
                    have HF2 : Hid (x.f = A ∨ Rch G.es A x.f) := HNW.out _ hfN
                    clear hfN
                    go_wp2_with fail
                    refine (containsIn_any R2 pr2 cr2 x.t w9 hsr1 (by omega)).mono ?_
                    rintro e w10 ⟨rfl, rfl⟩
                    by_cases htR : x.t ∈ R2
                    · rw [decide_eq_true htR]
                      clear htR
                      go_wp2_with fail
                      go_roundw
                      case rel => exact ⟨k + 1, R2, X, by omega, by go_num, hrA, hxA, hnA, d1, d2, d3, HRD2, HXX, HLN, hBA⟩
                      case measure => simp [intOf]; omega
                    · rw [decide_eq_false htR]
                      have HRS : Hid (Rd G A (R2 ++ [x.t])) := HRD2.out.snoc HX.out.1 HX.out.2 HF2.out htR
                      have HXS : Hid (∀ t ∈ X ++ [x.t], t = A ∨ Rch G.es A t) := fun t h => by
                        rcases List.mem_append.1 h with h | h
                        · exact HXX.out t h
                        · rw [List.mem_singleton] at h; subst h
                          exact .inr (HRS.out.ok _ (by simp)).2
                      have HLS : Hid ((R2 ++ [x.t]).length = R.length + (X ++ [x.t]).length) := by unfold Hid; rw [List.length_append, List.length_append, HLN.out, Nat.add_assoc]
                      clear htR
                      have hn1 := cell_one_at w10 (.int .i64 x.t) 3 w10.heap.size rfl
                      have hrB := hrA.alloc (.cells #[.int .i64 x.t] 3)
                      have hxB := hxA.alloc (.cells #[.int .i64 x.t] 3)
                      have hnB := hnA.alloc (.cells #[.int .i64 x.t] 3)
                      have hBB := hBA.alloc hBA.size (.cells #[.int .i64 x.t] 3)
                      have yB := y0.alloc (.cells #[.int .i64 x.t] 3)
                      have hB1 : wo.heap.size ≤ (w10.alloc (.cells #[.int .i64 x.t] 3)).heap.size := hBB.size
                      go_wp2_with (at_builtin; first
                        | (refine wpList_append_own_at _ rfl _ _ 37 rfl wo.heap.size 3 i0 (.int .i64 0) 1 8 Tryd.underlying37 hi0 hz0 hz1 hz3 rfl (by decide) (.slice pr2 R2.length cr2) R2.length (R2.map (Value.int .i64)) rfl hrB ⟨w10.heap.size, 0, none⟩ 1 1 [.int .i64 x.t] rfl rfl hn1 (by simp [Value.oneCell']) (by simp [maxLen]; omega) (by omega) hB1 ?_; intro r' W3 hr3 hg3 _ ho3; have yC := yB.grown hg3 (fun e => by have := hre _ e.symm; omega); have yc2 := yC.at 2 rfl; have hx3 := Dj.kept d3 hg3 hxB; have hn3 := Dj.kept d1 hg3 hnB; have d13 := d1.step ho3 hnB; have d33 := d3.step ho3 hxB; have hB3 := hBB.grown hg3 hBB.size (fun j e => (hre _ e).1); have hn5 := cell_one_at W3 (.int .i64 x.t) 3 W3.heap.size rfl; have hr4 := hr3.alloc (.cells #[.int .i64 x.t] 3); have hx4 := hx3.alloc (.cells #[.int .i64 x.t] 3); have hn4 := hn3.alloc (.cells #[.int .i64 x.t] 3); have hB4 := hB3.alloc hB3.size (.cells #[.int .i64 x.t] 3))
                        | (refine wpList_append_own_at _ rfl _ _ 37 rfl wo.heap.size 3 i0 (.int .i64 0) 1 8 Tryd.underlying37 hi0 hz0 hz1 hz3 rfl (by decide) (.slice px X.length cx) X.length (X.map (Value.int .i64)) rfl hx4 ⟨W3.heap.size, 0, none⟩ 1 1 [.int .i64 x.t] rfl rfl hn5 (by simp [Value.oneCell']) (by simp [maxLen]; omega) (by omega) hB4.size ?_; intro x' W5 hx5 hg5 _ ho5))
                      have hr5 := Dj.kept d33.symm hg5 hr4
                      have hn6 := Dj.kept d2 hg5 hn4
                      have d25 := d2.step ho5 hn4
                      have d35 := (d33.symm.step ho5 hr4).symm
                      have hB5 := hB4.grown hg5 hB4.size (fun j e => (hxe _ e).1)
                      go_roundw
                      case rel => exact ⟨k + 1, R2 ++ [x.t], X ++ [x.t], by omega, by go_num, by rw [List.length_append, List.map_append]; exact hr5, by rw [List.length_append, List.map_append]; exact hx5, hn6, d13, d25, d35, HRS, HXS, HLS, hB5⟩
                      case measure => simp [intOf]; omega
                  · rw [decide_eq_false hfN]
                    clear hfN
                    go_wp2_with fail
                    go_roundw
                    case rel => exact ⟨k + 1, R2, X, by omega, by go_num, hrA, hxA, hnA, d1, d2, d3, HRD2, HXX, HLN, hBA⟩
                    case measure => simp [intOf]; omega
                · obtain rfl : k = G.es.length := by omega
                  have hR2l := HRD2.out.len h3 hn10
                  have hXl : X.length ≤ 10 := by have := HLN.out; omega
                  obtain ⟨pr2, cr2, rfl, _⟩ := own_sl hr
                  obtain ⟨px, cx, rfl, _⟩ := own_sl hx
                  go_wp2
                  go_roundw
                  case rel => exact ⟨R2, X, hr, hx, d3, HRD2, HXX, hBx, hXl⟩
                  case measure => have := HLN.out; simp only [bmu, slLen]; omega
            · have hnz' : ¬ (0 : Int) < (N.length : Int) := by omega
              have ir := i7.below hB
              have hfin : Hid ((!decide (A ∈ R) || decide (A ∈ T)) = true) := by
                unfold Hid
                by_cases h : A ∈ R
                · have := HCL.out A (HRD.out.ok A h).2
                  simp [this]
                · simp [h]
              go_wp2_with fail
              refine (containsIn_any R pr cr A wu hsr (by omega)).mono ?_
              rintro e w9 ⟨rfl, rfl⟩
              by_cases hAR : A ∈ R
              · have hAT : A ∈ T := HCL.out A (HRD.out.ok A hAR).2
                rw [decide_eq_true hAR]
                go_wp2_with fail
                refine (containsIn_any T q2 d2 A w9 ir (by omega)).mono ?_
                rintro e w10 ⟨rfl, rfl⟩
                rw [decide_eq_true hAT]
                go_wp2_with fail
                refine (awake_any w10).mono ?_
                rintro e w11 ⟨rfl, hB11⟩
                go_wp2
                go_ret
                exact ⟨rfl, xr.trans (hB11.mono xr.size)⟩
              · rw [decide_eq_false hAR]
                go_wp2_with fail
                refine (awake_any w9).mono ?_
                rintro e w11 ⟨rfl, hB11⟩
                go_wp2
                go_ret
                exact ⟨rfl, xr.trans (hB11.mono xr.size)⟩
end Go.Proofs.YtkknkbdkokdbfaaDoor
