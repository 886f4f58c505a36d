/-
  Words, plain lemmas and walks, merged: Sf, Tf, Tg, Th, Nu, Nz, Ob.
-/
import Derived.Test.YtmdjndbjfgncmaaGreatDoorMik
import Derived.Test.YtmdjndbjfgncmaaGreatDoorMif
import Derived.Test.YtmdjndbjfgncmaaGreatDoorMij
import Derived.Test.YtmdjndbjfgncmaaGreatDoorMih
import Derived.Test.YtmdjndbjfgncmaaGreatDoorMii
set_option linter.unusedVariables false
set_option linter.unusedSimpArgs false
namespace Go.Proofs.YtmdjndbjfgncmaaGreatDoor
open Go.RowKit

theorem upto_st {G : Gr} (hv : Vg G) : St G.n (upto G.n.toNat) := ⟨upto_srt _, fun x hx => by have := mem_upto.1 hx; have := hv.n1; omega⟩
theorem next_st {G : Gr} (hv : Vg G) (st : List Int) (b : Int) : St G.n (nextA G st b) :=
  ⟨(upto_srt _).filter _, fun x hx => (upto_st hv).ins x (List.mem_filter.1 hx).1⟩
theorem leads_fold {G : Gr} (hv : Vg G) : ∀ (w st : List Int), St G.n st → Lab G.q.toNat w → leadsA G st w = w.foldl (nextA G) st
  | [], _, _, _ => rfl
  | b :: w, st, hs, hl => by
    have hb := hl b (by simp)
    have hq := hv.q1
    have e : stepA G st b = (nextA G st b, 0) := by
      unfold stepA
      rw [if_pos (chkG_ok.2 hv), if_pos hs.chk, if_neg (by omega)]
    rw [leadsA, e]
    simp only [if_true]
    rw [leads_fold hv w _ (next_st hv st b) (fun y hy => hl y (by simp [hy])), List.foldl_cons]
theorem leads_bad {G : Gr} (hv : Vg G) : ∀ (w st : List Int), St G.n st → ¬ Lab G.q.toNat w → leadsA G st w = []
  | [], _, _, h => absurd (fun x hx => by cases hx) h
  | b :: w, st, hs, h => by
    have hq := hv.q1
    rw [leadsA]
    by_cases hb : 0 ≤ b ∧ b < (G.q.toNat : Int)
    · have e : stepA G st b = (nextA G st b, 0) := by
        unfold stepA
        rw [if_pos (chkG_ok.2 hv), if_pos hs.chk, if_neg (by omega)]
      rw [e]
      simp only [if_true]
      refine leads_bad hv w _ (next_st hv st b) (fun hl => h (fun x hx => ?_))
      rcases List.mem_cons.1 hx with rfl | hx
      · exact hb
      · exact hl x hx
    · have e : stepA G st b = ([], 2) := by
        unfold stepA
        rw [if_pos (chkG_ok.2 hv), if_pos hs.chk, if_pos (by omega)]
      rw [e, if_neg (by decide)]
theorem run_bad {G : Gr} (hv : Vg G) : ∀ (w : List Int) (s : Int), ¬ Lab G.q.toNat w → run1 G.es s w < 0
  | [], _, h => absurd (fun x hx => by cases hx) h
  | b :: w, s, h => by
    have hq := hv.q1
    rw [run1_cons]
    by_cases hb : 0 ≤ b ∧ b < (G.q.toNat : Int)
    · exact run_bad hv w _ (fun hl => h (fun x hx => by
        rcases List.mem_cons.1 hx with rfl | hx
        · exact hb
        · exact hl x hx))
    · refine run1_neg w ?_
      by_cases hs : s < 0
      · rw [nxt_neg hs]; omega
      · rw [nxt_pos hs]
        by_cases ht : tgt G.es s b = -1
        · omega
        · obtain ⟨y, hy, _, hl, _⟩ := tgt_mem ht
          have := hv.ins y hy
          omega
/-- A word of a graph. -/
theorem word_iff {G : Gr} (hc : chkG G = 0) (he : (sbA G).2.2 = 0) (w : List Int) : leadsA G (upto G.n.toNat) w ≠ [] ↔ 0 ≤ run1 (sbA G).1.es (st0 G) w := by
  have hv := chkG_ok.1 hc
  obtain ⟨hsv, hsu⟩ := sbA_ok he
  have hn := hv.n1
  have hq : (sbA G).1.q = G.q := by
    unfold sbA at he ⊢
    rw [if_pos hc] at he ⊢
    by_cases h0 : G.n = 0
    · rw [if_pos h0]
    · rw [if_neg h0] at he ⊢
      cases hg : sbGo G 66 0 ([upto G.n.toNat], []) with
      | none => rw [hg] at he; cases he
      | some r => rfl
  by_cases hl : Lab G.q.toNat w
  · rw [leads_fold hv w _ (upto_st hv) hl]
    by_cases h0 : G.n = 0
    · have hs0 : st0 G = -1 := by
        unfold st0 sbA
        rw [if_pos hc, if_pos h0]; rfl
      have hu0 : upto G.n.toNat = [] := by rw [h0]; rfl
      rw [hs0, hu0]
      have e1 := run1_neg (es := (sbA G).1.es) w (s := -1) (by omega)
      have e2 : ∀ w : List Int, w.foldl (nextA G) [] = [] := by
        intro w
        induction w with
        | nil => rfl
        | cons b w ih =>
          rw [List.foldl_cons]
          have : nextA G [] b = [] := by
            unfold nextA
            rw [List.filter_eq_nil_iff]
            intro z _ hz
            obtain ⟨y, _, hy⟩ := List.any_eq_true.1 hz
            simp [nxE] at hy
          rw [this]; exact ih
      rw [e2]
      exact ⟨fun h => absurd rfl h, fun h => by omega⟩
    · unfold st0
      unfold sbA at he hsu ⊢
      rw [if_pos hc, if_neg h0] at he hsu ⊢
      cases hg : sbGo G 66 0 ([upto G.n.toNat], []) with
      | none => rw [hg] at he; cases he
      | some r =>
        rw [hg] at hsu
        simp only at hsu ⊢
        have hs : Sw G 0 0 ([upto G.n.toNat], []) := ⟨fun j b set _ h _ _ => by omega, fun x hx => by cases hx⟩
        obtain ⟨⟨k, k1, k2⟩, k3⟩ := sbGo_sw (x := upto G.n.toNat) _ _ _ r hs rfl hg
        have hlen := (List.getElem?_eq_some_iff.1 k3).1
        rw [if_pos (by omega)]
        have hne : upto G.n.toNat ≠ [] := fun e => by
          have e2 := congrArg List.length e
          rw [upto_len, List.length_nil] at e2
          omega
        exact (sets_run k1 k2 hsu w 0 _ k3 hne hl).symm
  · rw [leads_bad hv w _ (upto_st hv) hl]
    have := run_bad hsv w (st0 G) (by rw [hq]; exact hl)
    exact ⟨fun h => absurd rfl h, fun h => by omega⟩
end Go.Proofs.YtmdjndbjfgncmaaGreatDoor
namespace Go.Proofs.YtmdjndbjfgncmaaGreatDoor
open Go.RowKit Go.Sort Go.Shelf Go.Lib

/-! ### Plain: what is in the sets -/
theorem nextA_chk (G : Gr) (st : List Int) (b : Int) (hn : 0 ≤ G.n) : chkS G.n none (nextA G st b) = 0 :=
  chkS_of (nextA_srt G st b) (fun x hx => by
    have := mem_upto.1 (List.mem_filter.1 hx).1
    omega) (fun q h => by cases h)
theorem srt_len {n : Int} : ∀ {l : List Int} {a : Int}, l.Pairwise (· < ·) → (∀ x ∈ l, a ≤ x ∧ x < n) → a ≤ n → (l.length : Int) ≤ n - a
  | [], a, _, _, h => by simp; omega
  | x :: l, a, h1, h2, h => by
    obtain ⟨p1, p2⟩ := List.pairwise_cons.1 h1
    have hx := h2 x (by simp)
    have := srt_len (a := x + 1) p2 (fun y hy => ⟨by have := p1 y hy; omega, (h2 y (by simp [hy])).2⟩) (by omega)
    rw [List.length_cons]; omega
theorem chk_len {n : Int} {l : List Int} (hn : 0 ≤ n ∧ n ≤ 64) (h : chkS n none l = 0) : l.length ≤ 64 := by
  obtain ⟨h1, h2, _⟩ := chkS_ok h
  have := srt_len (a := 0) h1 h2 (by omega)
  omega
theorem chk_okK {n : Int} {l : List Int} (hn : 0 ≤ n ∧ n ≤ 64) (h : chkS n none l = 0) : okK l :=
  ⟨fun x hx => by have := (chkS_ok h).2.1 x hx; omega, by have := chk_len hn h; omega⟩
/-- All sets can be sets. -/
def Gs (n : Int) (st : Sst) : Prop := ∀ s ∈ st.1, chkS n none s = 0
theorem Gs.add {G : Gr} (hn : 0 ≤ G.n) {set : List Int} {i : Nat} {st : Sst} (h : Gs G.n st) (a : Nat) : Gs G.n (sbAdd G set i st a) := by
  unfold sbAdd
  split
  · exact h
  · split
    · exact h
    · intro s hs
      rcases List.mem_append.1 hs with hs | hs
      · exact h s hs
      · obtain rfl := List.mem_singleton.1 hs
        exact nextA_chk G set a hn
theorem Gs.to {G : Gr} (hn : 0 ≤ G.n) {set : List Int} {i : Nat} {st : Sst} (h : Gs G.n st) : ∀ L, Gs G.n (sbTo G set i st L)
  | 0 => h
  | L + 1 => by rw [sbTo_succ]; exact (h.to hn L).add hn L
theorem sbTo_grow (G : Gr) (set : List Int) (i : Nat) (st : Sst) : ∀ L, (sbTo G set i st L).1.length ≤ st.1.length + L ∧ (sbTo G set i st L).2.length ≤ st.2.length + L
  | 0 => ⟨Nat.le_refl _, Nat.le_refl _⟩
  | L + 1 => by
    have := sbTo_grow G set i st L
    rw [sbTo_succ]
    unfold sbAdd
    split
    · omega
    · split
      · simp only [List.length_append, List.length_singleton]; omega
      · simp only [List.length_append, List.length_singleton]; omega
/-- What a build from a set on answers. -/
def sbR (G : Gr) : Option Sst → Gr × List (List Int) × Int
  | none => (⟨0, 0, []⟩, [], 4)
  | some r => (⟨G.q, (r.1.length : Int), r.2⟩, r.1, 0)
theorem sbA_ok1 {G : Gr} (h : chkG G = 0) (hn : G.n ≠ 0) : sbA G = sbR G (sbGo G 66 0 ([upto G.n.toNat], [])) := by
  unfold sbA; rw [if_pos h, if_neg hn]; cases sbGo G 66 0 ([upto G.n.toNat], []) <;> rfl
theorem sbGo_end {G : Gr} {m i : Nat} {st : Sst} (h : st.1.length ≤ i) : sbGo G (m + 1) i st = some st := by
  unfold sbGo; rw [List.getElem?_eq_none h]
theorem sbGo_next {G : Gr} {m i : Nat} {st : Sst} (h : i < st.1.length) : sbGo G (m + 1) i st = if 64 < (sbTo G st.1[i] i st G.q.toNat).1.length ∨ 1024 < (sbTo G st.1[i] i st G.q.toNat).2.length then none else sbGo G m (i + 1) (sbTo G st.1[i] i st G.q.toNat) := by
  rw [sbGo]; rw [List.getElem?_eq_getElem h]

/-- A graph, sets and an error number. -/
def RetSb (r : Gr × List (List Int) × Int) (w : World) (e : Ending) (w' : World) : Prop :=
  ∃ p c ps ms cs, e = .returned (.tuple #[(.agg #[.int .i64 r.1.q, .int .i64 r.1.n, .slice p r.1.es.length c]), .slice ps ms cs, .int .i64 r.2.2]) ∧ w'.ownsRow w.heap.size 42 3 (.slice p r.1.es.length c) r.1.es.length (cat r.1.es) ∧ RowKit.Below w.heap.size w w'
theorem RetSb.of {x : Gr × List (List Int) × Int} {G : Gr} {S : List (List Int)} {k : Int} {w w' : World} {p ps : Option Addr} {m c ms cs : Nat} (hx : x = (G, S, k)) (hm : m = G.es.length) (hs : w'.ownsRow w.heap.size 42 3 (.slice p m c) m (cat G.es)) (hB : RowKit.Below w.heap.size w w') :
    RetSb x w (.returned (.tuple #[.agg #[.int .i64 G.q, .int .i64 G.n, .slice p m c], .slice ps ms cs, .int .i64 k])) w' := by
  subst hx; subst hm; exact ⟨p, c, ps, ms, cs, rfl, hs, hB⟩
def cellInt (W : World) : Value → Nat
  | .pointer (some a) => (match W.cell? a with | some v => (RowKit.intOf v).toNat | none => 0)
  | _ => 0

theorem Mp.store1 {w w2 : World} {ks : ByteArray} {set : List Int} (hk : okK set) (hks : kK set = .string ks) (hB : RowKit.Below (w.alloc (.map #[] 0)).heap.size (w.alloc (.map #[] 0)) w2) :
    ∃ w3, (Instr.mapUpdate 102 (.map (some w.heap.size)) (.string ks) (.int .i64 0)).run Tryz.prog w2 = .ok () w3 ∧ Mp kK okK (Value.int .i64) w3 w.heap.size (numF [set]) ∧ w2.mapTurned w3 w.heap.size := by
  have h := (Mp.made (kv := kK) (ok := okK) (vv := Value.int .i64) w).below hB (by rw [World.size_alloc]; omega)
  obtain ⟨w3, h1, h2, h3⟩ := h.store keyK Tryz.underlying102 set hk 0
  rw [hks] at h1
  refine ⟨w3, h1, h2.congr (fun a => ?_), h3⟩
  unfold mset numF
  by_cases e : a = set
  · subst e; simp
  · simp [e]

/-- A build of sets at a state of it. -/
def SbJ (G : Gr) (w0 : World) (bn bs bo mb bi i : Nat) (s : List Int) (v : Value) (st : Sst) (W : World) : Prop :=
  Bx w0.heap.size bn bs bo mb G.q st W ∧ RowKit.Below w0.heap.size w0 W ∧ VRow W bi 3 [.int .i64 i] ∧ W.ownsRow w0.heap.size 3 1 v s.length (s.map (Value.int .i64))
theorem SbJ.below {G : Gr} {w0 : World} {bn bs bo mb bi i : Nat} {s : List Int} {v : Value} {st : Sst} {W W' : World} (h : SbJ G w0 bn bs bo mb bi i s v st W) (hB : RowKit.Below W.heap.size W W') : SbJ G w0 bn bs bo mb bi i s v st W' :=
  ⟨h.1.below hB, h.2.1.trans (hB.mono h.2.1.size), h.2.2.1.below hB h.2.2.1.lt, h.2.2.2.below hB⟩
set_option maxRecDepth 100000 in
set_option maxHeartbeats 1000000 in
/-- All steps of one set. -/
theorem ssteps_build (G : Gr) (p : Option Addr) (c : Nat) (w0 : World) (bn bs bo mb bi i : Nat) (s : List Int) (q : Option Addr) (d : Nat) (st : Sst) (W : World) (hin : Sg 3 w0 edE p G.es) (hv : Vg G) (hs : chkS G.n none s = 0)
    (h1 : st.1.length ≤ 64) (h2 : st.2.length ≤ 1024) (hmb : w0.heap.size ≤ mb) (hbs : w0.heap.size ≤ bs) (hbo : w0.heap.size ≤ bo) (h : SbJ G w0 bn bs bo mb bi i s (.slice q s.length d) st W) :
    Calls Tryz.prog 90 #[(.agg #[.int .i64 G.q, .int .i64 G.n, .slice p G.es.length c]), .slice q s.length d, .func (.func 91) #[] #[.pointer (some ⟨bn, 0, none⟩), .pointer (some ⟨bs, 0, none⟩), .pointer (some ⟨bo, 0, none⟩), .pointer (some ⟨bi, 0, none⟩)]] W fun e w' =>
      e = .returned (.tuple #[]) ∧ SbJ G w0 bn bs bo mb bi i s (.slice q s.length d) (sbTo G s i st G.q.toNat) w' := by
  have hboW : bo < W.heap.size := by
    obtain ⟨⟨_, _, ⟨pe, ce, r, _⟩, _⟩, _⟩ := h
    exact r.lt
  refine ssteps_any G p c s q d 91 _ (fun a V => SbJ G w0 bn bs bo mb bi i s (.slice q s.length d) (sbTo G s i st a) V) W hv hs (chk_len ⟨hv.n1, hv.n2⟩ hs) (enters_of Tryz.func91 (by kernel_rfl) rfl) ?_ ?_ ?_ ?_ h
  · rintro a V ⟨_, hB, _, ho⟩
    obtain ⟨p', c', e, hsl⟩ := own_sl ho
    cases e
    exact ⟨hin.below hB, hsl⟩
  · intro a V V' hJ hB; exact hJ.below hB
  · intro a V ha hn hJ
    show SbJ G w0 bn bs bo mb bi i s (.slice q s.length d) (sbTo G s i st (a + 1)) V
    rw [sbTo_succ, sbAdd_none hn]; exact hJ
  · rintro a V pn cn ha hn hlt ⟨hX, hB, hI, ho⟩ hnx
    have hgr := sbTo_grow G s i st a
    have hq := hv.q2
    show Calls Tryz.prog 91 #[.int .i64 a, .slice pn (nextA G s a).length cn, .pointer (some ⟨bn, 0, none⟩), .pointer (some ⟨bs, 0, none⟩), .pointer (some ⟨bo, 0, none⟩), .pointer (some ⟨bi, 0, none⟩)] V _
    have hB0 := hB.size
    refine (sbuild1_any w0.heap.size bn bs bo mb bi i a G.q (sbTo G s i st a) (nextA G s a) pn cn V hX hI (own_downN hnx (by omega)) (chk_okK ⟨hv.n1, hv.n2⟩ (nextA_chk G s a hv.n1)) (by omega) (by omega) hmb hbs hbo hB0).mono ?_
    rintro e V' ⟨he, k1, k2, k3, k4⟩
    refine ⟨he, ⟨?_, hB.trans k2, k4.vrow hI, k4.own ho⟩, fun l hl => k3.vrow hl (by omega)⟩
    rw [sbTo_succ, sbAdd_put hn]; exact k1

set_option maxRecDepth 100000 in
set_option maxHeartbeats 4000000 in
theorem sbuild_any (G : Gr) (p : Option Addr) (c : Nat) (set : List Int) (q : Option Addr) (d : Nat) (w : World) (hin : Sg 3 w edE p G.es) (hst : Sl w (Value.int .i64) q set) (hv : Vg G) (hc : chkS G.n none set = 0) (hne : set ≠ []) :
    Calls Tryz.prog 53 #[(.agg #[.int .i64 G.q, .int .i64 G.n, .slice p G.es.length c]), .slice q set.length d] w (RetSb (sbR G (sbGo G 66 0 ([set], []))) w) := by
  have HV := hidI hv
  have hlen := HV.out.len
  have hks0 := chk_okK ⟨hv.n1, hv.n2⟩ hc
  have h64 := chk_len ⟨hv.n1, hv.n2⟩ hc
  obtain ⟨Q, hQ⟩ : ∃ Q : Nat, G.q = Q := ⟨G.q.toNat, by have := hv.q1; omega⟩
  have HQ := hidI hQ
  have HKO := hidI hks0
  obtain ⟨ks, hks⟩ : ∃ ks : ByteArray, ks = ⟨(keyL set).toArray⟩ := ⟨_, rfl⟩
  have HPK : Hid (kK set = .string ks) := by rw [hks]; rfl
  obtain ⟨w0, hw0⟩ : ∃ w0, w0 = (w.alloc (.cells #[.int .i64 G.q, .int .i64 G.n, .slice p G.es.length c] 24)).alloc (.cells #[.int .i64 0, .int .i64 0, .slice none 0 0] 24) := ⟨_, rfl⟩
  have b0 : VRow w0 w.heap.size 24 [.int .i64 G.q, .int .i64 G.n, .slice p G.es.length c] := by subst hw0; exact (VRow.new w _ _).alloc _
  have b1 : VRow w0 (w.heap.size + 1) 24 [.int .i64 0, .int .i64 0, .slice none 0 0] := by subst hw0; exact VRow.new1 w _ _ _
  have hB0 : RowKit.Below w.heap.size w w0 := by subst hw0; exact ((RowKit.Below.refl _ _).alloc (Nat.le_refl _) _).alloc (by simp) _
  have HIN := hidI (hin.below hB0); have HST := hidI (hst.below hB0)
  have HKY : Hid (∀ W, RowKit.Below w0.heap.size w0 W → Calls Tryz.prog 88 #[.slice q set.length d] W fun e w' => e = .returned (.string ks) ∧ RowKit.Below W.heap.size W w') := fun W hW => by
    rw [hks]; exact skey_any set q d W (HST.out.below hW) HKO.out.1 HKO.out.2
  obtain ⟨w1, hw1⟩ : ∃ w1, w1 = w0.alloc (.map #[] 0) := ⟨_, rfl⟩
  have hB1 : RowKit.Below w0.heap.size w0 w1 := by subst hw1; exact (RowKit.Below.refl _ _).alloc (Nat.le_refl _) _
  have HMS : Hid (∀ w2, RowKit.Below w1.heap.size w1 w2 → ∃ w3, (Instr.mapUpdate 102 (.map (some w0.heap.size)) (.string ks) (.int .i64 0)).run Tryz.prog w2 = .ok () w3 ∧ Mp kK okK (Value.int .i64) w3 w0.heap.size (numF [set]) ∧ w2.mapTurned w3 w0.heap.size) := fun w2 h => by
    subst hw1; exact Mp.store1 HKO.out HPK.out h
  have HW1 := hidI hw1
  have hmm := @run_makeMap Tryz.prog
  have HGS : Hid (Gs G.n ([set], [])) := fun s hs => by obtain rfl := List.mem_singleton.1 hs; exact hc
  clear hin hst hv hc hks0 hQ hks
  go_enter Tryz.func53, Tryz.ntmps53
  go_upto_region 1 with fail
  rw [← hw0]
  clear hw0
  go_wp2_with fail
  rw [← HW1.out]
  refine (HKY.out w1 hB1).mono ?_
  rintro e w2 ⟨rfl, hB2⟩
  obtain ⟨w3, hst3, hM3, hturn⟩ := HMS.out w2 hB2
  go_upto_region 2 with fail
  obtain ⟨w4, hw4⟩ : ∃ w4, w4 = w3.alloc (.cells #[.map (some w0.heap.size)] 102) := ⟨_, rfl⟩
  have hB3 : RowKit.Below w0.heap.size w0 w3 := turn_below (hB1.trans (hB2.mono hB1.size)) hturn (Nat.le_refl _) (Nat.le_trans hB1.size hB2.size)
  have hB34 : RowKit.Below w3.heap.size w3 w4 := by subst hw4; exact (RowKit.Below.refl _ _).alloc (Nat.le_refl _) _
  have hB4 := hB3.trans (hB34.mono hB3.size)
  have hN4 : PN w3.heap.size w0.heap.size [set] w4 := ⟨by subst hw4; exact VRow.new w3 _ _, Mp.below' hM3 hB34⟩
  rw [← hw4]
  obtain ⟨bn, hbn⟩ : ∃ bn, bn = w3.heap.size := ⟨_, rfl⟩
  obtain ⟨mb, hmb⟩ : ∃ mb, mb = w0.heap.size := ⟨_, rfl⟩
  have hmb0 : w0.heap.size ≤ mb := by omega
  have hbn0 : w0.heap.size ≤ bn := by rw [hbn]; exact hB3.size
  rw [← hbn, ← hmb] at hN4
  rw [← hbn, ← hmb]
  clear hw4 hst3 hM3 hturn hB3 hB34 hmm hw1 HW1 HMS hbn hmb
  have hCL : Hid (∀ W, RowKit.Below w0.heap.size w0 W → Calls Tryz.prog 89 #[.slice q set.length d] W fun e w' => ∃ p c, e = .returned (.slice p set.length c) ∧ w'.ownsRow W.heap.size 3 1 (.slice p set.length c) set.length (set.map (Value.int .i64)) ∧ RowKit.Below W.heap.size W w') := fun W hW => by
    obtain ⟨b, off, rfl, hb, hcell⟩ := (HST.out.below hW).get 0 (List.length_pos_iff.2 hne)
    refine (Tryz.slices_Clone_int b off set.length d set W (Nat.le_refl _) (by omega) (fun j hj => by rw [hcell j hj]; simp [List.getD_eq_getElem?_getD, hj])).mono ?_
    rintro e w' ⟨v', rfl, ho, _, hB⟩
    rw [List.take_length] at ho
    obtain ⟨p', c', rfl⟩ := own_shape1 ho
    exact ⟨p', c', rfl, ho, hB⟩
  go_wp2_with fail
  refine (hCL.out w4 hB4).mono ?_
  rintro e w5 ⟨ps, cs, rfl, hown5, hB5⟩
  go_upto_region 3 with fail
  obtain ⟨bs, hbs⟩ : ∃ bs, bs = w5.heap.size + 1 := ⟨_, rfl⟩
  obtain ⟨w6, hw6⟩ : ∃ w6, w6 = (w5.alloc (.cells #[.slice ps set.length cs] 28)).alloc (.cells #[.slice (some ⟨w5.heap.size, 0, none⟩) 1 1] 55) := ⟨_, rfl⟩
  have hB6 : RowKit.Below w5.heap.size w5 w6 := by subst hw6; exact ((RowKit.Below.refl _ _).alloc (Nat.le_refl _) _).alloc (by simp) _
  have hB45 := hB4.trans (hB5.mono hB4.size)
  have hB06 := hB45.trans (hB6.mono hB45.size)
  have hbs0 : w0.heap.size ≤ bs := by have := hB45.size; omega
  have hS6 : PS w0.heap.size bs [set] w6 := by
    subst hw6
    refine ⟨some ⟨w5.heap.size, 0, none⟩, 1, [.slice ps set.length cs], by rw [hbs]; exact VRow.new1 w5 _ _ _, ?_, fun i hi => ?_⟩
    · exact (own_new w5 w0.heap.size [.slice ps set.length cs] 28 hB45.size (by simp [maxLen])).alloc _
    · obtain rfl : i = 0 := by simp at hi; exact hi
      exact ⟨_, rfl, ⟨_, _, rfl⟩, (own_downN (hown5.below hB6) hB4.size)⟩
  have hN6 := hN4.keep (KX0.below (hB5.trans (hB6.mono hB5.size))) (KXm.below (hB5.trans (hB6.mono hB5.size)))
  rw [← hw6, ← hbs]
  clear hw6 hbs hB5 hB6 hB45 hown5 hN4
  have c0 := b0.below hB06 b0.lt
  have f0 := c0.at 0 rfl
  obtain ⟨w7, hw7⟩ : ∃ w7, w7 = w6.alloc (.cells #[.int .i64 G.q, .int .i64 0, .slice none 0 0] 24) := ⟨_, rfl⟩
  obtain ⟨w8, hw8⟩ : ∃ w8, w8 = w7.alloc (.cells #[.int .i64 0] 3) := ⟨_, rfl⟩
  have hB67 : RowKit.Below w6.heap.size w6 w7 := by subst hw7; exact (RowKit.Below.refl _ _).alloc (Nat.le_refl _) _
  have hB78 : RowKit.Below w7.heap.size w7 w8 := by subst hw8; exact (RowKit.Below.refl _ _).alloc (Nat.le_refl _) _
  have hB68 := hB67.trans (hB78.mono hB67.size)
  have hB08 := hB06.trans (hB68.mono hB06.size)
  have hI8 : VRow w8 w7.heap.size 3 [.int .i64 ((0 : Nat) : Int)] := by subst hw8; exact VRow.new w7 _ _
  obtain ⟨bo, hbo⟩ : ∃ bo, bo = w6.heap.size := ⟨_, rfl⟩
  obtain ⟨bi, hbi⟩ : ∃ bi, bi = w7.heap.size := ⟨_, rfl⟩
  have hbo0 : w0.heap.size ≤ bo := by have := hB06.size; omega
  have hbi0 : w0.heap.size ≤ bi := by have := (hB06.trans (hB67.mono hB06.size)).size; omega
  have hO8 : PO w0.heap.size bo G.q [] w8 := by
    have r7 : VRow w7 w6.heap.size 24 [.int .i64 G.q, .int .i64 0, .slice none 0 0] := by subst hw7; exact VRow.new w6 _ _
    rw [hbo]
    exact ⟨none, 0, r7.below hB78 r7.lt, World.ownsRow_nil _ _ _ _⟩
  have hX8 : Bx w0.heap.size bn bs bo mb G.q ([set], []) w8 :=
    ⟨hN6.keep (KX0.below hB68) (KXm.below hB68), hS6.keep (KX0.below hB68) (KX0.below hB68) (KX0.below hB68), hO8, fun s hs => by obtain rfl := List.mem_singleton.1 hs; exact HKO.out⟩
  rw [← hbi] at hI8
  go_upto_region 4 with fail
  rw [← hw7, ← hbo]
  have HW8 := hidI hw8; have HBI := hidI hbi
  clear f0 hw7 hw8 hbo hbi hB67 hB78 hB68 hN6 hS6 hO8 hB06 c0
  go_wp2
  rw [← HW8.out, ← HBI.out]
  clear HW8 HBI
  go_loopw [10] (fun bv wr => ∃ (i bi : Nat) (st : Sst), bv = .pointer (some ⟨bi, 0, none⟩) ∧ VRow wr bi 3 [.int .i64 i] ∧ Bx w0.heap.size bn bs bo mb G.q st wr ∧ Gs G.n st ∧ i ≤ st.1.length ∧ st.1.length ≤ 64 ∧ st.2.length ≤ 1024 ∧ Hid (sbGo G (66 - i) i st = sbGo G 66 0 ([set], [])) ∧ RowKit.Below w0.heap.size w0 wr ∧ w0.heap.size ≤ bi) (fun bv wr => 66 - cellInt wr bv)
  case atStart => exact ⟨0, bi, ([set], []), rfl, hI8, hX8, HGS.out, by simp, by simp, by simp, rfl, hB08, hbi0⟩
  case round =>
    clear hX8 hI8 hB08 hbi0
    obtain ⟨i, bi, st, rfl, hI, hX, hg, hil, h64, h1k, hgo, hB, hbi0⟩ := hrel
    have fi := hI.at 0 rfl
    obtain ⟨ps, cs, Vs, rs, os, hel⟩ := hX.sets
    have s0 := rs.at 0 rfl
    by_cases hlt : i < st.1.length
    · have hltI : (i : Int) < (st.1.length : Int) := by omega
      obtain ⟨v, hv, ⟨pv, cv, rfl⟩, ov⟩ := hel i hlt
      obtain ⟨gs, rfl⟩ : ∃ gs, ps = some ⟨gs, 0, none⟩ := by
        rcases os.2 with ⟨_, h0⟩ | ⟨g, cap, cur, e, _⟩
        · omega
        · cases e; exact ⟨g, rfl⟩
      have cS : wr.cell? ⟨gs, i, none⟩ = some (.slice pv st.1[i].length cv) := by rw [os.cellAt i (by omega)]; exact hv
      have HSP := hidI (fun W (h : SbJ G w0 bn bs bo mb bi i st.1[i] (.slice pv st.1[i].length cv) st W) => ssteps_build G p c w0 bn bs bo mb bi i st.1[i] pv cv st W HIN.out HV.out (hg _ (List.getElem_mem hlt)) h64 h1k hmb0 hbs0 hbo0 h)
      have HJ : Hid (SbJ G w0 bn bs bo mb bi i st.1[i] (.slice pv st.1[i].length cv) st wr) := ⟨hX, hB, hI, ov⟩
      have HGN := hidI (sbGo_next (G := G) (m := 65 - i) hlt)
      have HGG := hidI (hg.to HV.out.n1 (set := st.1[i]) (i := i) G.q.toNat)
      generalize st.1[i] = s at *
      go_upto_region 7 with fail
      refine region_tail 6 (by kernel_rfl) (by kernel_rfl) fun W hD => ?_
      have HJ2 := hidI (HJ.out.below (hD.below _))
      have c0 := (b0.below (hB.mono (Nat.le_refl _)) b0.lt).dr hD
      have e0 := c0.at 0 rfl; have e1 := c0.at 1 rfl; have e2 := c0.at 2 rfl
      have fi2 := (hD.cell _).trans fi
      have HFI := hidI fi
      have s02 := (hD.cell _).trans s0
      have cS2 := (hD.cell _).trans cS
      clear fi s0 cS hel os rs hI hX ov hv HJ c0
      simp only [List.take_succ_cons, List.take_zero, List.drop_succ_cons, List.drop_zero]
      iterate 6 still_step
      refine wpStill_nil ?_
      clear e0 e1 e2 fi2 s02 cS2
      go_wp2_with fail
      refine (HSP.out W HJ2.out).mono ?_
      rintro e W2 ⟨rfl, hX2, hB2, hI2, hO2⟩
      have hgr := sbTo_grow G s i st G.q.toNat
      have hle := sbTo_len (G := G) (set := s) (i := i) (st := st) G.q.toNat
      have hqb := HV.out.q2
      generalize sbTo G s i st G.q.toNat = st2 at *
      clear HJ2 hD hB HSP
      obtain ⟨S2, E2⟩ := st2
      have HGN : Hid (sbGo G (65 - i + 1) i st = if 64 < S2.length ∨ 1024 < E2.length then none else sbGo G (65 - i) (i + 1) (S2, E2)) := HGN
      have hgr : S2.length ≤ st.1.length + G.q.toNat ∧ E2.length ≤ st.2.length + G.q.toNat := hgr
      have hX2' := hidI hX2
      obtain ⟨_, ⟨ps2, cs2, Vs2, r2, _, _⟩, ⟨pe, ce, ro, _⟩, _⟩ := hX2
      have hle : st.1.length ≤ S2.length := hle
      have s2 : W2.cell? ⟨bs, 0, none⟩ = some (.slice ps2 S2.length cs2) := r2.at 0 rfl
      have e2 : W2.cell? ⟨bo, 2, none⟩ = some (.slice pe E2.length ce) := ro.at 2 rfl
      have fi3 := hI2.at 0 rfl
      have HGO : Hid (sbGo G 66 0 ([set], []) = sbGo G (65 - i + 1) i st) := by rw [Hid, ← hgo.out, show 65 - i + 1 = 66 - i by omega]
      have hS2l : S2.length ≤ 1000 := by omega
      have hE2l : E2.length ≤ 2000 := by omega
      have hlI : (S2.length : Int) ≤ 1000 := by omega
      clear r2 ro hgr
      by_cases hA : 64 < S2.length
      · have HGE : Hid (sbGo G 66 0 ([set], []) = none) := by rw [Hid, HGO.out, HGN.out, if_pos (.inl hA)]
        have hAI : (64 : Int) < (S2.length : Int) := by omega
        (have c1 := b1.below hB2 b1.lt; have j0 := c1.at 0 rfl; have j1 := c1.at 1 rfl; have j2 := c1.at 2 rfl; have z0 := c1.frozen 0; have z1 := c1.frozen 1; have z2 := c1.frozen 2; go_wp2; have r6 := VRow.set (i := 2) (.slice none 0 0) (VRow.set (i := 1) (.int .i64 0) (VRow.set (i := 0) (.int .i64 0) c1)); have y0 := r6.at 0 rfl; have y1 := r6.at 1 rfl; have y2 := r6.at 2 rfl; have x2 := hB0.trans (hB2.mono hB0.size); have x6 : RowKit.Below w.heap.size w (((W2.setCell (⟨w.heap.size + 1, 0, none⟩ : Addr) (.int .i64 0)).setCell (⟨w.heap.size + 1, 1, none⟩ : Addr) (.int .i64 0)).setCell (⟨w.heap.size + 1, 2, none⟩ : Addr) (.slice none 0 0)) := ((x2.setCell (show w.heap.size ≤ w.heap.size + 1 by omega) _).setCell (show w.heap.size ≤ w.heap.size + 1 by omega) _).setCell (show w.heap.size ≤ w.heap.size + 1 by omega) _; refine bodyPost_ret (v := .tuple #[.agg #[.int .i64 0, .int .i64 0, .slice none 0 0], .slice none 0 0, .int .i64 4]) (by simp [results, Tryz.results53, go_sem, y0, y1, y2]) rfl ?_; rw [HGE.out]; exact RetSb.of (G := ⟨0, 0, []⟩) (S := []) rfl rfl (World.ownsRow_nil _ _ _ _) x6)
      · have hAI : ¬ (64 : Int) < (S2.length : Int) := by omega
        by_cases hC : 1024 < E2.length
        · have HGE : Hid (sbGo G 66 0 ([set], []) = none) := by rw [Hid, HGO.out, HGN.out, if_pos (.inr hC)]
          have hCI : (1024 : Int) < (E2.length : Int) := by omega
          (have c1 := b1.below hB2 b1.lt; have j0 := c1.at 0 rfl; have j1 := c1.at 1 rfl; have j2 := c1.at 2 rfl; have z0 := c1.frozen 0; have z1 := c1.frozen 1; have z2 := c1.frozen 2; go_wp2; have r6 := VRow.set (i := 2) (.slice none 0 0) (VRow.set (i := 1) (.int .i64 0) (VRow.set (i := 0) (.int .i64 0) c1)); have y0 := r6.at 0 rfl; have y1 := r6.at 1 rfl; have y2 := r6.at 2 rfl; have x2 := hB0.trans (hB2.mono hB0.size); have x6 : RowKit.Below w.heap.size w (((W2.setCell (⟨w.heap.size + 1, 0, none⟩ : Addr) (.int .i64 0)).setCell (⟨w.heap.size + 1, 1, none⟩ : Addr) (.int .i64 0)).setCell (⟨w.heap.size + 1, 2, none⟩ : Addr) (.slice none 0 0)) := ((x2.setCell (show w.heap.size ≤ w.heap.size + 1 by omega) _).setCell (show w.heap.size ≤ w.heap.size + 1 by omega) _).setCell (show w.heap.size ≤ w.heap.size + 1 by omega) _; refine bodyPost_ret (v := .tuple #[.agg #[.int .i64 0, .int .i64 0, .slice none 0 0], .slice none 0 0, .int .i64 4]) (by simp [results, Tryz.results53, go_sem, y0, y1, y2]) rfl ?_; rw [HGE.out]; exact RetSb.of (G := ⟨0, 0, []⟩) (S := []) rfl rfl (World.ownsRow_nil _ _ _ _) x6)
        · have hCI : ¬ (1024 : Int) < (E2.length : Int) := by omega
          have HGX : Hid (sbGo G (66 - (i + 1)) (i + 1) (S2, E2) = sbGo G 66 0 ([set], [])) := by rw [Hid, HGO.out, HGN.out, if_neg (by omega), show 66 - (i + 1) = 65 - i by omega]
          clear HGN HGO
          go_wp2
          go_roundw
          case rel =>
            have hBn := (RowKit.Below.refl W2.heap.size W2).alloc (Nat.le_refl _) (.cells #[.int .i64 ((i : Int) + 1)] 3)
            exact ⟨i + 1, W2.heap.size, (S2, E2), rfl, by simpa using VRow.new W2 3 [.int .i64 ((i : Int) + 1)], hX2'.out.below hBn, HGG.out, by show i + 1 ≤ S2.length; omega, by show S2.length ≤ 64; omega, by show E2.length ≤ 1024; omega, HGX, hB2.trans (hBn.mono hB2.size), hB2.size⟩
          case measure =>
            have h1 := HFI.out
            have h2 : (W2.alloc (.cells #[.int .i64 ((i : Int) + 1)] 3)).cell? ⟨W2.heap.size, 0, none⟩ = some (.int .i64 ((i : Int) + 1)) := (VRow.new W2 3 [.int .i64 ((i : Int) + 1)]).at 0 rfl
            simp only [cellInt, h1, h2, RowKit.intOf]
            omega
    · obtain rfl : i = st.1.length := by omega
      obtain ⟨S, E⟩ := st
      have hltI : ¬ (S.length : Int) < (S.length : Int) := by omega
      obtain ⟨pe, ce, ro, oo⟩ := hX.out
      have HGE : Hid (sbGo G 66 0 ([set], []) = some (S, E)) := by
        rw [Hid, ← hgo.out]
        have h64' : S.length ≤ 64 := h64
        show sbGo G (66 - S.length) S.length (S, E) = _
        rw [show 66 - S.length = 65 - S.length + 1 by omega]; exact sbGo_end (Nat.le_refl _)
      have s1 : wr.cell? ⟨bs, 0, none⟩ = some (.slice ps S.length cs) := s0
      have i1 : wr.cell? ⟨bi, 0, none⟩ = some (.int .i64 S.length) := fi
      have ro1 : VRow wr bo 24 [.int .i64 G.q, .int .i64 0, .slice pe E.length ce] := ro
      have e1 := ro1.at 1 rfl; have z1 := ro1.frozen 1
      have rw2 := ro1.set (i := 1) (.int .i64 S.length)
      have rs1 : VRow (wr.setCell ⟨bo, 1, none⟩ (.int .i64 S.length)) bs 55 [.slice ps S.length cs] := (KX0.set ro1 1 _ (by decide)).vrow rs
      have o9 := (KX0.set ro1 1 (.int .i64 S.length) (t := 42) (by decide)).own oo
      have hB9 := hB.setCell (p := ⟨bo, 1, none⟩) hbo0 (.int .i64 S.length)
      clear fi s0 hel hX hg os rs ro
      go_upto_region 13 with fail
      generalize wr.setCell ⟨bo, 1, none⟩ (.int .i64 S.length) = w9 at *
      have c1 := b1.below hB9 b1.lt
      have k0 := rw2.at 0 rfl; have k1 := rw2.at 1 rfl; have k2 := rw2.at 2 rfl; have k3 := rs1.at 0 rfl
      have j0 := c1.at 0 rfl; have j1 := c1.at 1 rfl; have j2 := c1.at 2 rfl
      have z0 := c1.frozen 0; have z1 := c1.frozen 1; have z2 := c1.frozen 2
      have x9 := hB0.trans (hB9.mono hB0.size)
      have r6 := VRow.set (i := 2) (.slice pe E.length ce) (VRow.set (i := 1) (.int .i64 S.length) (VRow.set (i := 0) (.int .i64 G.q) c1))
      have y0 := r6.at 0 rfl; have y1 := r6.at 1 rfl; have y2 := r6.at 2 rfl
      have hz0 : w.heap.size + 1 < w0.heap.size := b1.lt
      have o6 := ownsRow_setCell_below (a := (⟨w.heap.size + 1, 2, none⟩ : Addr)) (ownsRow_setCell_below (a := (⟨w.heap.size + 1, 1, none⟩ : Addr)) (ownsRow_setCell_below (a := (⟨w.heap.size + 1, 0, none⟩ : Addr)) o9 hz0 (.int .i64 G.q)) hz0 (.int .i64 S.length)) hz0 (.slice pe E.length ce)
      have x6 : RowKit.Below w.heap.size w (((w9.setCell (⟨w.heap.size + 1, 0, none⟩ : Addr) (.int .i64 G.q)).setCell (⟨w.heap.size + 1, 1, none⟩ : Addr) (.int .i64 S.length)).setCell (⟨w.heap.size + 1, 2, none⟩ : Addr) (.slice pe E.length ce)) :=
        ((x9.setCell (show w.heap.size ≤ w.heap.size + 1 by omega) _).setCell (show w.heap.size ≤ w.heap.size + 1 by omega) _).setCell (show w.heap.size ≤ w.heap.size + 1 by omega) _
      go_region
      all_goals
        go_wp2
        generalize ((w9.setCell (⟨w.heap.size + 1, 0, none⟩ : Addr) (.int .i64 G.q)).setCell (⟨w.heap.size + 1, 1, none⟩ : Addr) (.int .i64 S.length)).setCell (⟨w.heap.size + 1, 2, none⟩ : Addr) (.slice pe E.length ce) = wz at *
        have q0 : wz.drew.cell? ⟨w.heap.size + 1, 0, none⟩ = _ := y0
        have q1 : wz.drew.cell? ⟨w.heap.size + 1, 1, none⟩ = _ := y1
        have q2 : wz.drew.cell? ⟨w.heap.size + 1, 2, none⟩ = _ := y2
        refine bodyPost_ret (v := .tuple #[.agg #[.int .i64 G.q, .int .i64 S.length, .slice pe E.length ce], .slice ps S.length cs, .int .i64 0]) (by simp [results, Tryz.results53, go_sem, q0, q1, q2]) rfl ?_
        rw [HGE.out]
        exact RetSb.of (G := ⟨G.q, (S.length : Int), E⟩) (S := S) rfl rfl ((own_downN o6 hB0.size).dr ⟨1, rfl⟩) x6.drew
end Go.Proofs.YtmdjndbjfgncmaaGreatDoor
namespace Go.Proofs.YtmdjndbjfgncmaaGreatDoor
open Go.RowKit Go.Sort Go.Shelf Go.Lib

theorem upT_row (N k : Nat) (h : k < N) : ((upto k ++ List.replicate (N - k) 0).map (Value.int .i64))[k]? = some (.int .i64 0) := by
  rw [List.getElem?_map, List.getElem?_append_right (by rw [upto_len]; omega), upto_len, List.getElem?_replicate, if_pos (by omega)]
  rfl
theorem upT_set (N k : Nat) (h : k < N) : ((upto k ++ List.replicate (N - k) 0).map (Value.int .i64)).set k (.int .i64 k) = (upto (k + 1) ++ List.replicate (N - (k + 1)) 0).map (Value.int .i64) := by
  obtain ⟨m, hm⟩ : ∃ m, N - k = m + 1 := ⟨N - k - 1, by omega⟩
  rw [hm, show N - (k + 1) = m by omega, upto_succ, List.replicate_succ, List.map_append, List.set_append_right _ _ (by rw [List.length_map, upto_len]; omega), List.length_map, upto_len, Nat.sub_self]
  simp

set_option maxRecDepth 100000 in
set_option maxHeartbeats 4000000 in
theorem sBuild_any (G : Gr) (p : Option Addr) (c : Nat) (w : World) (hin : Sg 3 w edE p G.es) (hl : G.es.length ≤ 9223372036854775807) :
    Calls Tryz.prog 29 #[(.agg #[.int .i64 G.q, .int .i64 G.n, .slice p G.es.length c])] w (RetSb (sbA G) w) := by
  obtain ⟨i0, hi0, hz0, hz1, hz3⟩ := info_parts infoJ
  obtain ⟨w0, hw0⟩ : ∃ w0, w0 = (w.alloc (.cells #[.int .i64 G.q, .int .i64 G.n, .slice p G.es.length c] 24)).alloc (.cells #[.int .i64 0, .int .i64 0, .slice none 0 0] 24) := ⟨_, rfl⟩
  have b0 : VRow w0 w.heap.size 24 [.int .i64 G.q, .int .i64 G.n, .slice p G.es.length c] := by subst hw0; exact (VRow.new w _ _).alloc _
  have b1 : VRow w0 (w.heap.size + 1) 24 [.int .i64 0, .int .i64 0, .slice none 0 0] := by subst hw0; exact VRow.new1 w _ _ _
  have hB0 : RowKit.Below w.heap.size w w0 := by subst hw0; exact ((RowKit.Below.refl _ _).alloc (Nat.le_refl _) _).alloc (by simp) _
  have HIN := hidI (hin.below hB0)
  have g0 := b0.at 0 rfl; have g1 := b0.at 1 rfl; have g2 := b0.at 2 rfl
  obtain ⟨r, hr⟩ : ∃ r, chkG G = r := ⟨_, rfl⟩
  have HC := hidI (gCheck_r G p c w0 r hr HIN.out hl)
  clear hin
  by_cases hr0 : r = 0
  · subst hr0
    have hv := chkG_ok.1 hr
    obtain ⟨N, hN⟩ : ∃ N : Nat, G.n = N := ⟨G.n.toNat, by have := hv.n1; omega⟩
    have hN64 : N ≤ 64 := by have := hv.n2; omega
    have HV := hidI hv; have HR := hidI hr
    have HN := hidI hN
    clear hr hv hN
    go_enter Tryz.func29, Tryz.ntmps29
    go_wp2_with fail
    rw [← hw0]
    clear hw0
    refine HC.out.mono ?_
    rintro e w1 ⟨rfl, hB1⟩
    have c0 := b0.below hB1 b0.lt
    have c1 := b1.below hB1 b1.lt
    have hBW := hB0.trans (hB1.mono hB0.size)
    clear g0 g1 g2
    have g0 := c0.at 0 rfl; have g1 := c0.at 1 rfl; have g2 := c0.at 2 rfl
    have j0 := c1.at 0 rfl; have j1 := c1.at 1 rfl; have j2 := c1.at 2 rfl
    have z0 := c1.frozen 0; have z1 := c1.frozen 1; have z2 := c1.frozen 2
    by_cases hn : N = 0
    · have HK : Hid (sbA G = (⟨G.q, 0, []⟩, [], 0)) := by unfold Hid sbA; rw [if_pos HR.out, if_pos (by rw [HN.out, hn]; rfl)]
      have hn0 : (G.n == 0) = true := by rw [HN.out, hn]; rfl
      go_wp2
      (have r6 := VRow.set (i := 2) (.slice none 0 0) (VRow.set (i := 1) (.int .i64 0) (VRow.set (i := 0) (.int .i64 G.q) c1)); have y0 := r6.at 0 rfl; have y1 := r6.at 1 rfl; have y2 := r6.at 2 rfl; have x6 : RowKit.Below w.heap.size w (((w1.setCell (⟨w.heap.size + 1, 0, none⟩ : Addr) (.int .i64 G.q)).setCell (⟨w.heap.size + 1, 1, none⟩ : Addr) (.int .i64 0)).setCell (⟨w.heap.size + 1, 2, none⟩ : Addr) (.slice none 0 0)) := ((hBW.setCell (show w.heap.size ≤ w.heap.size + 1 by omega) _).setCell (show w.heap.size ≤ w.heap.size + 1 by omega) _).setCell (show w.heap.size ≤ w.heap.size + 1 by omega) _; refine bodyPost_ret (v := .tuple #[.agg #[.int .i64 G.q, .int .i64 0, (.slice none 0 0)], (.slice none 0 0), .int .i64 0]) (by simp [results, Tryz.results29, go_sem, y0, y1, y2]) rfl ?_)
      rw [HK.out]
      exact RetSb.of (G := ⟨G.q, 0, []⟩) (S := []) rfl rfl (World.ownsRow_nil _ _ _ _) x6
    · have hnI := HN.out
      have HK : Hid (sbA G = sbR G (sbGo G 66 0 ([upto G.n.toNat], []))) := sbA_ok1 HR.out (by rw [hnI]; omega)
      have HUC : Hid (chkS G.n none (upto N) = 0) := chkS_of (upto_srt _) (fun x hx => by have := mem_upto.1 hx; have := HN.out; omega) (fun q h => by cases h)
      have HUN : Hid (upto N ≠ []) := fun e => by have := congrArg List.length e; rw [upto_len] at this; exact hn (by simpa using this)
      have HTN : Hid (G.n.toNat = N) := by rw [Hid, HN.out]; rfl
      have g1N : w1.cell? ⟨w.heap.size, 1, none⟩ = some (.int .i64 N) := by rw [← HN.out]; exact g1
      have hn0N : ((N : Int) == 0) = false := by simpa using hn
      have HB := hidI (fun W q d (hW : RowKit.Below w1.heap.size w1 W) (hs : Sl W (Value.int .i64) q (upto N)) => sbuild_any G p c (upto N) q d W (HIN.out.below (hB1.trans (hW.mono hB1.size))) hs HV.out HUC.out HUN.out)
      clear g1 hnI j0 j1 j2 z0 z1 z2
      go_upto_region 6 with (at_make; refine wpList_make_full _ rfl _ _ 28 rfl w1.heap.size 3 i0 (.int .i64 0) 1 Tryz.underlying28 hi0 hz0 hz1 .i64 .i64 _ _ N rfl rfl (by omega) (by omega) (by rw [hz3]; omega) (by unfold maxLen; omega) (Nat.le_refl _) ?_; intro w2 hown hgrow)
      have hv2 : VRow w2 w1.heap.size 3 ((upto 0 ++ List.replicate (N - 0) 0).map (Value.int .i64)) := by
        have := made_rowJ hown
        simpa [Go.Proofs.YtmdjndbjfgncmaaGreatDoor.upto] using this
      have hB2 : RowKit.Below w1.heap.size w1 w2 := (RowKit.Below.refl _ _).grown hgrow (Nat.le_refl _) (by simp)
      have HBD : Hid (∀ W (q : Option Addr) (d : Nat), RowKit.Below w1.heap.size w1 W → Sl W (Value.int .i64) q (upto N) → Calls Tryz.prog 53 #[(.agg #[.int .i64 G.q, .int .i64 G.n, .slice p G.es.length c]), .slice q N d] W (RetSb (sbA G) W)) := fun W q d hW hs => by
        have := HB.out W q d hW hs
        rw [upto_len] at this
        rw [HK.out, HTN.out]; exact this
      obtain ⟨sb, hsb⟩ : ∃ sb, sb = sbA G := ⟨_, rfl⟩
      rw [← hsb] at HBD
      have HSB := hidI hsb
      clear hown hgrow HB HK hsb g1N hn0N
      go_wp2
      go_loopw [22] (fun iv wr => ∃ k : Nat, k ≤ N ∧ iv = .int .i64 k ∧ VRow wr w1.heap.size 3 ((upto k ++ List.replicate (N - k) 0).map (Value.int .i64)) ∧ RowKit.Below w1.heap.size w1 wr) (fun iv _ => N - (RowKit.intOf iv).toNat)
      case atStart => exact ⟨0, by omega, rfl, hv2, hB2⟩
      case round =>
        clear hv2 hB2
        obtain ⟨k, hk, rfl, hv, hB⟩ := hrel
        by_cases hlt : k < N
        · have hltN : (k : Int) < (N : Int) := by omega
          have hc := hv.at k (upT_row N k hlt)
          have hf := hv.frozen k
          have HS := hidI (upT_set N k hlt)
          go_wp2
          go_roundw
          case rel => exact ⟨k + 1, by omega, by go_num, by rw [← HS.out]; exact VRow.set (i := k) _ hv, hB.setCell (p := ⟨w1.heap.size, k, none⟩) (Nat.le_refl _) _⟩
          case measure => simp [RowKit.intOf]; omega
        · obtain rfl : k = N := by omega
          have hkk : ¬ (k : Int) < (k : Int) := by omega
          rw [Nat.sub_self, List.replicate_zero, List.append_nil] at hv
          have cr := c0.below hB c0.lt
          have cs := c1.below hB c1.lt
          clear g0 g2
          have g0 := cr.at 0 rfl; have g1 := cr.at 1 rfl; have g2 := cr.at 2 rfl
          have HX := hidI (HBD.out wr _ k hB (Sl.of_vrow hv))
          go_wp2_with fail
          refine HX.out.mono ?_
          rintro e w5 ⟨p5, c5, ps5, ms5, cs5, rfl, ho5, hB5⟩
          have d1 := cs.below hB5 cs.lt
          have hBr := hBW.trans (hB.mono hBW.size)
          have hBW := hBr.trans (hB5.mono hBr.size)
          have hz : w.heap.size + 1 < wr.heap.size := cs.lt
          clear c1 cs cr g0 g1 g2 HX HBD hv hB5
          have c1 := d1
          have j0 := c1.at 0 rfl; have j1 := c1.at 1 rfl; have j2 := c1.at 2 rfl
          have z0 := c1.frozen 0; have z1 := c1.frozen 1; have z2 := c1.frozen 2
          obtain ⟨⟨qq, nn, ee⟩, S, kk⟩ := sb
          change w5.ownsRow wr.heap.size 42 3 (.slice p5 ee.length c5) ee.length (cat ee) at ho5
          have o6 := ownsRow_setCell_below (a := (⟨w.heap.size + 1, 2, none⟩ : Addr)) (ownsRow_setCell_below (a := (⟨w.heap.size + 1, 1, none⟩ : Addr)) (ownsRow_setCell_below (a := (⟨w.heap.size + 1, 0, none⟩ : Addr)) ho5 hz (.int .i64 qq)) hz (.int .i64 nn)) hz (.slice p5 ee.length c5)
          simp only
          go_wp2
          (have r6 := VRow.set (i := 2) (.slice p5 ee.length c5) (VRow.set (i := 1) (.int .i64 nn) (VRow.set (i := 0) (.int .i64 qq) c1)); have y0 := r6.at 0 rfl; have y1 := r6.at 1 rfl; have y2 := r6.at 2 rfl; have x6 : RowKit.Below w.heap.size w (((w5.setCell (⟨w.heap.size + 1, 0, none⟩ : Addr) (.int .i64 qq)).setCell (⟨w.heap.size + 1, 1, none⟩ : Addr) (.int .i64 nn)).setCell (⟨w.heap.size + 1, 2, none⟩ : Addr) (.slice p5 ee.length c5)) := ((hBW.setCell (show w.heap.size ≤ w.heap.size + 1 by omega) _).setCell (show w.heap.size ≤ w.heap.size + 1 by omega) _).setCell (show w.heap.size ≤ w.heap.size + 1 by omega) _; refine bodyPost_ret (v := .tuple #[.agg #[.int .i64 qq, .int .i64 nn, (.slice p5 ee.length c5)], (.slice ps5 ms5 cs5), .int .i64 kk]) (by simp [results, Tryz.results29, go_sem, y0, y1, y2]) rfl ?_)
          exact RetSb.of (G := ⟨qq, nn, ee⟩) (S := S) HSB.out.symm rfl (own_downN o6 hBr.size) x6
  · have HK : Hid (sbA G = (⟨0, 0, []⟩, [], 1)) := by unfold Hid sbA; rw [if_neg (by rw [hr]; exact hr0)]
    have hrb : (r == 0) = false := by simpa using hr0
    have hrc : (r != 0) = true := by simpa using hr0
    clear hr hr0
    go_enter Tryz.func29, Tryz.ntmps29
    go_wp2_with fail
    rw [← hw0]
    clear hw0
    refine HC.out.mono ?_
    rintro e w1 ⟨rfl, hB1⟩
    have c1 := b1.below hB1 b1.lt
    have hBW := hB0.trans (hB1.mono hB0.size)
    clear g0 g1 g2
    have j0 := c1.at 0 rfl; have j1 := c1.at 1 rfl; have j2 := c1.at 2 rfl
    have z0 := c1.frozen 0; have z1 := c1.frozen 1; have z2 := c1.frozen 2
    go_wp2
    (have r6 := VRow.set (i := 2) (.slice none 0 0) (VRow.set (i := 1) (.int .i64 0) (VRow.set (i := 0) (.int .i64 0) c1)); have y0 := r6.at 0 rfl; have y1 := r6.at 1 rfl; have y2 := r6.at 2 rfl; have x6 : RowKit.Below w.heap.size w (((w1.setCell (⟨w.heap.size + 1, 0, none⟩ : Addr) (.int .i64 0)).setCell (⟨w.heap.size + 1, 1, none⟩ : Addr) (.int .i64 0)).setCell (⟨w.heap.size + 1, 2, none⟩ : Addr) (.slice none 0 0)) := ((hBW.setCell (show w.heap.size ≤ w.heap.size + 1 by omega) _).setCell (show w.heap.size ≤ w.heap.size + 1 by omega) _).setCell (show w.heap.size ≤ w.heap.size + 1 by omega) _; refine bodyPost_ret (v := .tuple #[.agg #[.int .i64 0, .int .i64 0, (.slice none 0 0)], (.slice none 0 0), .int .i64 1]) (by simp [results, Tryz.results29, go_sem, y0, y1, y2]) rfl ?_)
    rw [HK.out]
    exact RetSb.of (G := ⟨0, 0, []⟩) (S := []) rfl rfl (World.ownsRow_nil _ _ _ _) x6
end Go.Proofs.YtmdjndbjfgncmaaGreatDoor
namespace Go.Proofs.YtmdjndbjfgncmaaGreatDoor
open Go.RowKit Go.Sort Go.Shelf Go.Lib

theorem eqlP (a b c d : Int) (w : World) : (binOp .eql 48 (.agg #[.int .i64 a, .int .i64 b]) (.agg #[.int .i64 c, .int .i64 d])).run Tryz.prog w = .ok (.bool (decide ((a, b) = (c, d)))) w := by
  have hS : Tryz.prog.underlying 48 = some (.struct (Tryz.prog.fieldsOf 48)) := by kernel_rfl
  have hp : Tryz.prog.stoodInHeld 48 = false := by kernel_rfl
  have hr : (Op.eqFields 9999 #[.int .i64 a, .int .i64 b] #[.int .i64 c, .int .i64 d] (Tryz.prog.fieldsOf 48).toList).run Tryz.prog w = .ok (decide ((a, b) = (c, d))) w := by
    simp only [Program.fieldsOf, Tryz.underlying48]
    have u3 := Tryz.underlying3
    have a3 := Tryz.isAgg3
    have z3 := Tryz.sizeOf3
    go_simp
    by_cases h1 : a = c <;> by_cases h2 : b = d <;> simp [h1, h2]
  rw [run_eql_struct, show (10000 : Nat) = 9999 + 1 from rfl, run_equalIn_agg w 9999 48 _ _ hS hp, hr]
  rfl
theorem sbA_q {G : Gr} (h : (sbA G).2.2 = 0) : (sbA G).1.q = G.q := by
  unfold sbA at h ⊢
  by_cases hc : chkG G = 0
  · rw [if_pos hc] at h ⊢
    by_cases hn : G.n = 0
    · rw [if_pos hn]
    · rw [if_neg hn] at h ⊢
      cases hg : sbGo G 66 0 ([upto G.n.toNat], []) with
      | none => rw [hg] at h; cases h
      | some r => rfl
  · rw [if_neg hc] at h; cases h
theorem mx2_max (x y : Int) : mx2 x y = max x y := by unfold mx2; split <;> omega
/-- The table of a graph of sets, in memory. -/
def TbAt (G : Gr) (L base : Nat) (v : Value) (W : World) : Prop :=
  ∃ B bs, v = .slice (some ⟨B, 0, none⟩) (sbA G).1.n.toNat (sbA G).1.n.toNat ∧ Tab W base B (sbA G).1.n.toNat L bs (fun s a => tgt (sbA G).1.es s a)
theorem TbAt.below {G : Gr} {L base : Nat} {v : Value} {W W' : World} (h : TbAt G L base v W) (hB : RowKit.Below W.heap.size W W') : TbAt G L base v W' := by
  obtain ⟨B, bs, e, hT⟩ := h
  exact ⟨B, bs, e, hT.later hB⟩
theorem TbAt.keep {G : Gr} {L base : Nat} {v : Value} {W W' : World} (h : TbAt G L base v W) (h1 : KX0 28 W W') (h2 : KX0 3 W W') : TbAt G L base v W' := by
  obtain ⟨B, bs, e, hT⟩ := h
  exact ⟨B, bs, e, ⟨h1.vrow hT.hd, fun s hs => h2.vrow (hT.row s hs), hT.inj, hT.lo, hT.ne⟩⟩
theorem srA_arg {G H : Gr} {is : Int × Int → Bool} (h : chkG G ≠ 0 ∨ chkG H ≠ 0) : srA G H is = ([], false, 1) := if_pos h
theorem srA_e1 {G H : Gr} {is : Int × Int → Bool} (h : chkG G = 0) (h' : chkG H = 0) (h1 : (sbA G).2.2 ≠ 0) : srA G H is = ([], false, (sbA G).2.2) := by
  unfold srA; rw [if_neg (by simp [h, h']), if_pos h1]
theorem srA_e2 {G H : Gr} {is : Int × Int → Bool} (h : chkG G = 0) (h' : chkG H = 0) (h1 : (sbA G).2.2 = 0) (h2 : (sbA H).2.2 ≠ 0) : srA G H is = ([], false, (sbA H).2.2) := by
  unfold srA; rw [if_neg (by simp [h, h']), if_neg (by simp [h1]), if_pos h2]
theorem srA_no {G H : Gr} {is : Int × Int → Bool} (h : chkG G = 0) (h' : chkG H = 0) (h1 : (sbA G).2.2 = 0) (h2 : (sbA H).2.2 = 0) (h3 : st0 G = -1 ∧ st0 H = -1) : srA G H is = ([], true, 0) := by
  unfold srA; rw [if_neg (by simp [h, h']), if_neg (by simp [h1]), if_neg (by simp [h2]), if_pos h3]
theorem srA_go {G H : Gr} {is : Int × Int → Bool} (h : chkG G = 0) (h' : chkG H = 0) (h1 : (sbA G).2.2 = 0) (h2 : (sbA H).2.2 = 0) (h3 : ¬ (st0 G = -1 ∧ st0 H = -1)) : srA G H is = ((fwA (srO G H is)).1, !(fwA (srO G H is)).2, 0) := by
  unfold srA; rw [if_neg (by simp [h, h']), if_neg (by simp [h1]), if_neg (by simp [h2]), if_neg h3]

set_option maxRecDepth 100000 in
set_option maxHeartbeats 4000000 in
theorem msearch_any (G H : Gr) (p p' : Option Addr) (c c' : Nat) (isb : Int × Int → Bool) (gi : Nat) (lb : Array Value) (w : World) (hin : Sg 3 w edE p G.es) (hin' : Sg 3 w edE p' H.es) (hl : G.es.length ≤ 9223372036854775807) (hl' : H.es.length ≤ 9223372036854775807)
    (eg : ∀ args w, (callFunc gi args).run Tryz.prog w = .ok (.enter gi args) w) (hi : ∀ n m W, IsAt n m isb gi lb W) :
    Calls Tryz.prog 22 #[(.agg #[.int .i64 G.q, .int .i64 G.n, .slice p G.es.length c]), (.agg #[.int .i64 H.q, .int .i64 H.n, .slice p' H.es.length c']), .func (.func gi) #[] lb] w (RetSp (srA G H isb).1 (srA G H isb).2.1 (srA G H isb).2.2 w) := by
  obtain ⟨w0, hw0⟩ : ∃ w0, w0 = (w.alloc (.cells #[.int .i64 G.q, .int .i64 G.n, .slice p G.es.length c] 24)).alloc (.cells #[.int .i64 H.q, .int .i64 H.n, .slice p' H.es.length c'] 24) := ⟨_, rfl⟩
  have b0 : VRow w0 w.heap.size 24 [.int .i64 G.q, .int .i64 G.n, .slice p G.es.length c] := by subst hw0; exact (VRow.new w _ _).alloc _
  have b1 : VRow w0 (w.heap.size + 1) 24 [.int .i64 H.q, .int .i64 H.n, .slice p' H.es.length c'] := by subst hw0; exact VRow.new1 w _ _ _
  have hB0 : RowKit.Below w.heap.size w w0 := by subst hw0; exact ((RowKit.Below.refl _ _).alloc (Nat.le_refl _) _).alloc (by simp) _
  have HIN := hidI (hin.below hB0); have HIN' := hidI (hin'.below hB0)
  have g0 := b0.at 0 rfl; have g1 := b0.at 1 rfl; have g2 := b0.at 2 rfl
  obtain ⟨r, hr⟩ : ∃ r, chkG G = r := ⟨_, rfl⟩
  obtain ⟨r', hr'⟩ : ∃ r', chkG H = r' := ⟨_, rfl⟩
  have HC := hidI (gCheck_r G p c w0 r hr HIN.out hl)
  have HC' := hidI (fun W (hW : RowKit.Below w0.heap.size w0 W) => gCheck_r H p' c' W r' hr' (HIN'.out.below hW) hl')
  clear hin hin'
  by_cases hr0 : r = 0
  · subst hr0
    go_enter Tryz.func22, Tryz.ntmps22
    go_wp2_with fail
    rw [← hw0]
    clear hw0
    refine HC.out.mono ?_
    rintro e w1 ⟨rfl, hB1⟩
    have c0 := b0.below hB1 b0.lt
    have c1 := b1.below hB1 b1.lt
    clear g0 g1 g2
    have h0 := c1.at 0 rfl; have h1 := c1.at 1 rfl; have h2 := c1.at 2 rfl
    go_wp2_with fail
    refine (HC'.out w1 hB1).mono ?_
    rintro e w2 ⟨rfl, hB2⟩
    have hB02 := hB1.trans (hB2.mono hB1.size)
    have x2 := hB0.trans (hB02.mono hB0.size)
    clear h0 h1 h2 hB2
    by_cases hr0' : r' = 0
    · subst hr0'
      have HR := hidI hr; have HR' := hidI hr'
      clear hr hr'
      have d0 := b0.below hB02 b0.lt
      have d1 := b1.below hB02 b1.lt
      clear c0 c1
      have g0 := d0.at 0 rfl; have g1 := d0.at 1 rfl; have g2 := d0.at 2 rfl
      have h0 := d1.at 0 rfl; have h1 := d1.at 1 rfl; have h2 := d1.at 2 rfl
      obtain ⟨w3, hw3⟩ : ∃ w3, w3 = (w2.alloc (.cells #[.slice none 0 0, .slice none 0 0] 73)).alloc (.cells #[.int .i64 (-1), .int .i64 (-1)] 48) := ⟨_, rfl⟩
      have rt : VRow w3 w2.heap.size 73 [.slice none 0 0, .slice none 0 0] := by subst hw3; exact (VRow.new w2 _ _).alloc _
      have rp : VRow w3 (w2.heap.size + 1) 48 [.int .i64 (-1), .int .i64 (-1)] := by subst hw3; exact VRow.new1 w2 _ _ _
      have hB23 : RowKit.Below w2.heap.size w2 w3 := by subst hw3; exact ((RowKit.Below.refl _ _).alloc (Nat.le_refl _) _).alloc (by simp) _
      go_upto_region 5 with fail
      rw [← hw3]
      clear hw3
      have hB03 := hB02.trans (hB23.mono hB02.size)
      obtain ⟨bt, hbt⟩ : ∃ bt, bt = w2.heap.size := ⟨_, rfl⟩
      obtain ⟨bp, hbp⟩ : ∃ bp, bp = w2.heap.size + 1 := ⟨_, rfl⟩
      have hbt0 : w0.heap.size ≤ bt := by have := hB02.size; omega
      have hbp0 : w0.heap.size ≤ bp := by have := hB02.size; omega
      rw [← hbt] at rt
      rw [← hbp] at rp
      rw [← hbp, ← hbt]
      clear hbt hbp g0 g1 g2 h0 h1 h2
      have e0 := d0.below hB23 d0.lt
      have e1 := d1.below hB23 d1.lt
      have g0 := e0.at 0 rfl; have g1 := e0.at 1 rfl; have g2 := e0.at 2 rfl
      have h0 := e1.at 0 rfl; have h1 := e1.at 1 rfl; have h2 := e1.at 2 rfl
      have hvG := chkG_ok.1 HR.out
      have hvH := chkG_ok.1 HR'.out
      obtain ⟨L, hL⟩ : ∃ L : Nat, mx2 G.q H.q = L := ⟨(mx2 G.q H.q).toNat, by have := hvG.q1; have := (mx2_max G.q H.q); omega⟩
      have hmx : ∀ w, (Builtin.max_ #[3, 3] 3 #[.int .i64 G.q, .int .i64 H.q]).run Tryz.prog w = .ok (.int .i64 L) w := fun w => by rw [run_mx2, hL]
      have HLm : Hid ((L : Int) = max G.q H.q) := by rw [Hid, ← hL, mx2_max]
      have hL256 : L ≤ 256 := by have := HLm.out; have := hvG.q2; have := hvH.q2; omega
      obtain ⟨w4, hw4⟩ : ∃ w4, w4 = w3.alloc (.cells #[.int .i64 G.q, .int .i64 G.n, .slice p G.es.length c, .int .i64 H.q, .int .i64 H.n, .slice p' H.es.length c'] 24) := ⟨_, rfl⟩
      have rl : VRow w4 w3.heap.size 24 [.int .i64 G.q, .int .i64 G.n, .slice p G.es.length c, .int .i64 H.q, .int .i64 H.n, .slice p' H.es.length c'] := by subst hw4; exact VRow.new w3 _ _
      have hB34 : RowKit.Below w3.heap.size w3 w4 := by subst hw4; exact (RowKit.Below.refl _ _).alloc (Nat.le_refl _) _
      have hB04 := hB03.trans (hB34.mono hB03.size)
      have rt4 := rt.below hB34 rt.lt
      have rp4 := rp.below hB34 rp.lt
      obtain ⟨bl, hbl⟩ : ∃ bl, bl = w3.heap.size := ⟨_, rfl⟩
      have HW4 := hidI hw4; have HBL := hidI hbl
      have hblt : bt ≠ bl := by have := rt.lt; omega
      have hblp : bp ≠ bl := by have := rp.lt; omega
      have hbtp : bt ≠ bp := fun e => by subst e; have h1 : w3.heap[bt]? = _ := rt; have h2 : w3.heap[bt]? = _ := rp; rw [h1] at h2; cases h2
      rw [← hbl] at rl
      clear hvG hvH hL hw4 hbl rt rp hB34 hB23 hB03
      go_wp2
      rw [← HW4.out, ← HBL.out]
      clear HW4 HBL hmx g0 g1 g2 h0 h1 h2 e0 e1 d0 d1
      go_loopw [37] (fun iv wr => ∃ (k : Nat) (v0 v1 : Value) (s0 s1 : Int), k ≤ 2 ∧ iv = .int .i64 k ∧ VRow wr bt 73 [v0, v1] ∧ VRow wr bp 48 [.int .i64 s0, .int .i64 s1] ∧ (0 < k → (sbA G).2.2 = 0 ∧ TbAt G L w0.heap.size v0 wr ∧ s0 = st0 G) ∧ (k = 0 → s0 = -1) ∧ (1 < k → (sbA H).2.2 = 0 ∧ TbAt H L w0.heap.size v1 wr ∧ s1 = st0 H) ∧ (k ≤ 1 → s1 = -1) ∧ VRow wr bl 24 [.int .i64 G.q, .int .i64 G.n, .slice p G.es.length c, .int .i64 H.q, .int .i64 H.n, .slice p' H.es.length c'] ∧ RowKit.Below w0.heap.size w0 wr) (fun iv _ => 2 - (RowKit.intOf iv).toNat)
      case atStart => exact ⟨0, _, _, -1, -1, by omega, rfl, rt4, rp4, (fun h => by omega), fun _ => rfl, (fun h => by omega), fun _ => rfl, rl, hB04⟩
      case round =>
        clear rt4 rp4 rl hB04
        obtain ⟨k, v0, v1, s0, s1, hk, rfl, rt, rp, q0, q0', q1, q1', rl, hB⟩ := hrel
        have hbig : ∀ x : Nat, x ≤ 2 → (x = 0 ∨ x = 1 ∨ x = 2) := fun x h => by omega
        rcases hbig k hk with rfl | rfl | rfl
        · have l0 := rl.at 0 rfl; have l1 := rl.at 1 rfl; have l2 := rl.at 2 rfl
          obtain ⟨wa, hwa⟩ : ∃ wa, wa = wr.alloc (.cells #[.int .i64 G.q, .int .i64 G.n, .slice p G.es.length c] 24) := ⟨_, rfl⟩
          have ra : VRow wa wr.heap.size 24 [.int .i64 G.q, .int .i64 G.n, .slice p G.es.length c] := by subst hwa; exact VRow.new wr _ _
          have hBa : RowKit.Below wr.heap.size wr wa := by subst hwa; exact (RowKit.Below.refl _ _).alloc (Nat.le_refl _) _
          have hB0a := hB.trans (hBa.mono hB.size)
          have HSB := hidI (sBuild_any G p c wa (HIN.out.below hB0a) hl)
          obtain ⟨⟨⟨Q1, N1, E1⟩, S1, k1⟩, hsb⟩ : ∃ sb, sb = sbA G := ⟨_, rfl⟩
          have HSX := hidI hsb.symm
          rw [← hsb] at HSB
          clear hsb
          have HWA := hidI hwa
          have m0 := ra.at 0 rfl; have m1 := ra.at 1 rfl; have m2 := ra.at 2 rfl
          clear hwa
          go_upto_region 9 with fail
          rw [← HWA.out]
          clear HWA l0 l1 l2
          go_wp2_with fail
          refine HSB.out.mono ?_
          rintro e wb ⟨pe, ce, pz, mz, cz, rfl, hob, hBb⟩
          change wb.ownsRow wa.heap.size 42 3 (.slice pe E1.length ce) E1.length (cat E1) at hob
          simp only
          by_cases hk1 : k1 = 0
          · subst hk1
            have hok : (sbA G).2.2 = 0 := by rw [HSX.out]
            have hvu := sbA_ok hok
            have hqx := sbA_q hok
            rw [HSX.out] at hvu hqx
            obtain ⟨hv1, hu1⟩ := hvu
            change Q1 = G.q at hqx
            have HOK := hidI hok
            obtain ⟨wc, hwc⟩ : ∃ wc, wc = wb.alloc (.cells #[.int .i64 Q1, .int .i64 N1, .slice pe E1.length ce] 24) := ⟨_, rfl⟩
            have rc : VRow wc wb.heap.size 24 [.int .i64 Q1, .int .i64 N1, .slice pe E1.length ce] := by subst hwc; exact VRow.new wb _ _
            have hBc : RowKit.Below wb.heap.size wb wc := by subst hwc; exact (RowKit.Below.refl _ _).alloc (Nat.le_refl _) _
            have hBwc : RowKit.Below wr.heap.size wr wc := hBa.trans ((hBb.trans (hBc.mono hBb.size)).mono hBa.size)
            obtain ⟨pe', ce', he', hsg, _, _⟩ := own_sg hob
            cases he'
            have HOF : Hid (Calls Tryz.prog 33 #[.agg #[.int .i64 Q1, .int .i64 N1, .slice pe E1.length ce], .int .i64 L] wc (RetTab N1.toNat L (fun s a => tgt E1 s a) wc)) := hidI (mof_any ⟨Q1, N1, E1⟩ pe ce L wc (hsg.below hBc) hv1 hu1 (by have := HLm.out; show Q1 ≤ L; omega) hL256)
            have hn1 : 0 ≤ N1 := hv1.n1
            have HWC := hidI hwc
            have n0 := rc.at 0 rfl; have n1' := rc.at 1 rfl; have n2 := rc.at 2 rfl
            have HQX := hidI hqx
            clear hwc hv1 hu1 hqx hok m0 m1 m2 hsg hob HSB
            go_upto_region 12 with fail
            rw [← HWC.out]
            clear HWC
            go_wp2_with fail
            refine HOF.out.mono ?_
            rintro e wd ⟨B1, bs1, rfl, hT, hBd⟩
            have hBwd : RowKit.Below wr.heap.size wr wd := hBwc.trans (hBd.mono hBwc.size)
            have rtd := rt.below hBwd rt.lt
            have rpd := rp.below hBwd rp.lt
            have rld := rl.below hBwd rl.lt
            have rcd := rc.below hBd rc.lt
            have hB0d := hB.trans (hBwd.mono hB.size)
            have rt2 := rtd.set (i := 0) (.slice (some ⟨B1, 0, none⟩) N1.toNat N1.toNat)
            have t0 := rtd.at 0 rfl; have tf := rtd.frozen 0
            have kd : ∀ t, t ≠ 73 → KX0 t wd (wd.setCell ⟨bt, 0, none⟩ (.slice (some ⟨B1, 0, none⟩) N1.toNat N1.toNat)) := fun t ht => KX0.set rtd 0 _ ht
            have rp2 := (kd _ (by decide)).vrow rpd
            have rl2 := (kd _ (by decide)).vrow rld
            have rc2 := (kd _ (by decide)).vrow rcd
            have hB2 := hB0d.setCell (p := ⟨bt, 0, none⟩) hbt0 (.slice (some ⟨B1, 0, none⟩) N1.toNat N1.toNat)
            have HT2 : Hid (TbAt G L w0.heap.size (.slice (some ⟨B1, 0, none⟩) N1.toNat N1.toNat) (wd.setCell ⟨bt, 0, none⟩ (.slice (some ⟨B1, 0, none⟩) N1.toNat N1.toNat))) := by
              refine TbAt.keep ?_ (kd _ (by decide)) (kd _ (by decide))
              unfold TbAt
              rw [HSX.out]
              exact ⟨B1, bs1, rfl, hT.mono (Nat.le_trans hB.size hBwc.size)⟩
            have HST : Hid (st0 G = if 0 < N1 then 0 else -1) := by unfold Hid st0; rw [HSX.out]
            obtain rfl := q0' (by trivial)
            obtain rfl := q1' (by omega)
            clear n0 n1' n2 rtd rpd rld rcd hT rt rp rl hBa hBwc hBd hBb
            go_upto_region 13 with fail
            generalize wd.setCell ⟨bt, 0, none⟩ (.slice (some ⟨B1, 0, none⟩) N1.toNat N1.toNat) = we at *
            clear t0 tf
            have n0 := rc2.at 1 rfl
            have u0 := rp2.at 0 rfl; have u1 := rp2.at 1 rfl; have uf0 := rp2.frozen 0; have uf1 := rp2.frozen 1
            by_cases hpos : 0 < N1
            · have HS0 : Hid (st0 G = 0) := by rw [Hid, HST.out, if_pos hpos]
              go_wp2
              go_roundw
              case rel =>
                have rp3 := rp2.set (i := 0) (.int .i64 0)
                have ke : ∀ t, t ≠ 48 → KX0 t we (we.setCell ⟨bp, 0, none⟩ (.int .i64 0)) := fun t ht => KX0.set rp2 0 _ ht
                exact ⟨1, _, _, 0, -1, by omega, rfl, (ke _ (by decide)).vrow rt2, rp3, (fun _ => ⟨HOK.out, (HT2.out.keep (ke _ (by decide)) (ke _ (by decide))), HS0.out.symm⟩), (fun h => by omega), (fun h => by omega), (fun _ => rfl), (ke _ (by decide)).vrow rl2, (hB2.setCell (p := ⟨bp, 0, none⟩) hbp0 _)⟩
              case measure => simp [RowKit.intOf]
            · have HS0 : Hid (st0 G = -1) := by rw [Hid, HST.out, if_neg hpos]
              go_wp2
              go_roundw
              case rel => exact ⟨1, _, _, -1, -1, by omega, rfl, rt2, rp2, (fun _ => ⟨HOK.out, (HT2.out), HS0.out.symm⟩), (fun h => by omega), (fun h => by omega), (fun _ => rfl), rl2, hB2⟩
              case measure => simp [RowKit.intOf]
          · have HK : Hid (srA G H isb = ([], false, k1)) := by
              rw [Hid, srA_e1 HR.out HR'.out (by rw [HSX.out]; exact hk1), HSX.out]
            have hkb : (k1 == 0) = false := by simpa using hk1
            have hkc : (k1 != 0) = true := by simpa using hk1
            clear hk1 m0 m1 m2
            go_wp2
            go_ret3
            have xb := hB0.trans ((hB0a.trans (hBb.mono hB0a.size)).mono hB0.size)
            exact RetSp.of (l := []) HK.out (Sl.nil _ _ _) (xb.alloc xb.size _)
        · have l0 := rl.at 3 rfl; have l1 := rl.at 4 rfl; have l2 := rl.at 5 rfl
          obtain ⟨wa, hwa⟩ : ∃ wa, wa = wr.alloc (.cells #[.int .i64 H.q, .int .i64 H.n, .slice p' H.es.length c'] 24) := ⟨_, rfl⟩
          have ra : VRow wa wr.heap.size 24 [.int .i64 H.q, .int .i64 H.n, .slice p' H.es.length c'] := by subst hwa; exact VRow.new wr _ _
          have hBa : RowKit.Below wr.heap.size wr wa := by subst hwa; exact (RowKit.Below.refl _ _).alloc (Nat.le_refl _) _
          have hB0a := hB.trans (hBa.mono hB.size)
          have HSB := hidI (sBuild_any H p' c' wa (HIN'.out.below hB0a) hl')
          obtain ⟨⟨⟨Q1, N1, E1⟩, S1, k1⟩, hsb⟩ : ∃ sb, sb = sbA H := ⟨_, rfl⟩
          have HSX := hidI hsb.symm
          rw [← hsb] at HSB
          clear hsb
          have HWA := hidI hwa
          have m0 := ra.at 0 rfl; have m1 := ra.at 1 rfl; have m2 := ra.at 2 rfl
          clear hwa
          go_upto_region 9 with fail
          rw [← HWA.out]
          clear HWA l0 l1 l2
          go_wp2_with fail
          refine HSB.out.mono ?_
          rintro e wb ⟨pe, ce, pz, mz, cz, rfl, hob, hBb⟩
          change wb.ownsRow wa.heap.size 42 3 (.slice pe E1.length ce) E1.length (cat E1) at hob
          simp only
          by_cases hk1 : k1 = 0
          · subst hk1
            have hok : (sbA H).2.2 = 0 := by rw [HSX.out]
            have hvu := sbA_ok hok
            have hqx := sbA_q hok
            rw [HSX.out] at hvu hqx
            obtain ⟨hv1, hu1⟩ := hvu
            change Q1 = H.q at hqx
            have HOK := hidI hok
            obtain ⟨wc, hwc⟩ : ∃ wc, wc = wb.alloc (.cells #[.int .i64 Q1, .int .i64 N1, .slice pe E1.length ce] 24) := ⟨_, rfl⟩
            have rc : VRow wc wb.heap.size 24 [.int .i64 Q1, .int .i64 N1, .slice pe E1.length ce] := by subst hwc; exact VRow.new wb _ _
            have hBc : RowKit.Below wb.heap.size wb wc := by subst hwc; exact (RowKit.Below.refl _ _).alloc (Nat.le_refl _) _
            have hBwc : RowKit.Below wr.heap.size wr wc := hBa.trans ((hBb.trans (hBc.mono hBb.size)).mono hBa.size)
            obtain ⟨pe', ce', he', hsg, _, _⟩ := own_sg hob
            cases he'
            have HOF : Hid (Calls Tryz.prog 33 #[.agg #[.int .i64 Q1, .int .i64 N1, .slice pe E1.length ce], .int .i64 L] wc (RetTab N1.toNat L (fun s a => tgt E1 s a) wc)) := hidI (mof_any ⟨Q1, N1, E1⟩ pe ce L wc (hsg.below hBc) hv1 hu1 (by have := HLm.out; show Q1 ≤ L; omega) hL256)
            have hn1 : 0 ≤ N1 := hv1.n1
            have HWC := hidI hwc
            have n0 := rc.at 0 rfl; have n1' := rc.at 1 rfl; have n2 := rc.at 2 rfl
            have HQX := hidI hqx
            clear hwc hv1 hu1 hqx hok m0 m1 m2 hsg hob HSB
            go_upto_region 12 with fail
            rw [← HWC.out]
            clear HWC
            go_wp2_with fail
            refine HOF.out.mono ?_
            rintro e wd ⟨B1, bs1, rfl, hT, hBd⟩
            have hBwd : RowKit.Below wr.heap.size wr wd := hBwc.trans (hBd.mono hBwc.size)
            have rtd := rt.below hBwd rt.lt
            have rpd := rp.below hBwd rp.lt
            have rld := rl.below hBwd rl.lt
            have rcd := rc.below hBd rc.lt
            have hB0d := hB.trans (hBwd.mono hB.size)
            have rt2 := rtd.set (i := 1) (.slice (some ⟨B1, 0, none⟩) N1.toNat N1.toNat)
            have t0 := rtd.at 1 rfl; have tf := rtd.frozen 1
            have kd : ∀ t, t ≠ 73 → KX0 t wd (wd.setCell ⟨bt, 1, none⟩ (.slice (some ⟨B1, 0, none⟩) N1.toNat N1.toNat)) := fun t ht => KX0.set rtd 1 _ ht
            have rp2 := (kd _ (by decide)).vrow rpd
            have rl2 := (kd _ (by decide)).vrow rld
            have rc2 := (kd _ (by decide)).vrow rcd
            have hB2 := hB0d.setCell (p := ⟨bt, 1, none⟩) hbt0 (.slice (some ⟨B1, 0, none⟩) N1.toNat N1.toNat)
            have HT2 : Hid (TbAt H L w0.heap.size (.slice (some ⟨B1, 0, none⟩) N1.toNat N1.toNat) (wd.setCell ⟨bt, 1, none⟩ (.slice (some ⟨B1, 0, none⟩) N1.toNat N1.toNat))) := by
              refine TbAt.keep ?_ (kd _ (by decide)) (kd _ (by decide))
              unfold TbAt
              rw [HSX.out]
              exact ⟨B1, bs1, rfl, hT.mono (Nat.le_trans hB.size hBwc.size)⟩
            have HST : Hid (st0 H = if 0 < N1 then 0 else -1) := by unfold Hid st0; rw [HSX.out]
            obtain ⟨hg0, htg, rfl⟩ := q0 (by omega)
            obtain rfl := q1' (by omega)
            have HG0 := hidI hg0
            have HTG := hidI ((htg.below hBwd).keep (kd _ (by decide)) (kd _ (by decide)))
            clear hg0 htg
            clear n0 n1' n2 rtd rpd rld rcd hT rt rp rl hBa hBwc hBd hBb
            go_upto_region 13 with fail
            generalize wd.setCell ⟨bt, 1, none⟩ (.slice (some ⟨B1, 0, none⟩) N1.toNat N1.toNat) = we at *
            clear t0 tf
            have n0 := rc2.at 1 rfl
            have u0 := rp2.at 0 rfl; have u1 := rp2.at 1 rfl; have uf0 := rp2.frozen 0; have uf1 := rp2.frozen 1
            by_cases hpos : 0 < N1
            · have HS0 : Hid (st0 H = 0) := by rw [Hid, HST.out, if_pos hpos]
              go_wp2
              go_roundw
              case rel =>
                have rp3 := rp2.set (i := 1) (.int .i64 0)
                have ke : ∀ t, t ≠ 48 → KX0 t we (we.setCell ⟨bp, 1, none⟩ (.int .i64 0)) := fun t ht => KX0.set rp2 1 _ ht
                exact ⟨2, _, _, st0 G, 0, by omega, rfl, (ke _ (by decide)).vrow rt2, rp3, (fun _ => ⟨HG0.out, (HTG.out.keep (ke _ (by decide)) (ke _ (by decide))), rfl⟩), (fun h => by omega), (fun _ => ⟨HOK.out, (HT2.out.keep (ke _ (by decide)) (ke _ (by decide))), HS0.out.symm⟩), (fun h => by omega), (ke _ (by decide)).vrow rl2, (hB2.setCell (p := ⟨bp, 1, none⟩) hbp0 _)⟩
              case measure => simp [RowKit.intOf]
            · have HS0 : Hid (st0 H = -1) := by rw [Hid, HST.out, if_neg hpos]
              go_wp2
              go_roundw
              case rel => exact ⟨2, _, _, st0 G, -1, by omega, rfl, rt2, rp2, (fun _ => ⟨HG0.out, (HTG.out), rfl⟩), (fun h => by omega), (fun _ => ⟨HOK.out, (HT2.out), HS0.out.symm⟩), (fun h => by omega), rl2, hB2⟩
              case measure => simp [RowKit.intOf]
          · have HK : Hid (srA G H isb = ([], false, k1)) := by
              rw [Hid, srA_e2 HR.out HR'.out (q0 (by omega)).1 (by rw [HSX.out]; exact hk1), HSX.out]
            have hkb : (k1 == 0) = false := by simpa using hk1
            have hkc : (k1 != 0) = true := by simpa using hk1
            clear hk1 m0 m1 m2
            go_wp2
            go_ret3
            have xb := hB0.trans ((hB0a.trans (hBb.mono hB0a.size)).mono hB0.size)
            exact RetSp.of (l := []) HK.out (Sl.nil _ _ _) (xb.alloc xb.size _)
        · obtain ⟨hg0, htg, rfl⟩ := q0 (by omega)
          obtain ⟨hh0, hth, rfl⟩ := q1 (by omega)
          obtain ⟨B1, bs1, rfl, hT1⟩ := htg
          obtain ⟨B2, bs2, rfl, hT2⟩ := hth
          have x := hB0.trans (hB.mono hB0.size)
          have u0 := rp.at 0 rfl; have u1 := rp.at 1 rfl
          have heq := eqlP (st0 G) (st0 H) (-1) (-1)
          by_cases hd : st0 G = -1 ∧ st0 H = -1
          · have HK := hidI (srA_no (is := isb) HR.out HR'.out hg0 hh0 hd)
            have hdp : (st0 G, st0 H) = (-1, -1) := by rw [hd.1, hd.2]
            rw [decide_eq_true hdp] at heq
            clear hd hdp
            generalize st0 G = s0 at *
            generalize st0 H = s1 at *
            go_wp2
            go_ret3
            exact RetSp.of (l := []) HK.out (Sl.nil _ _ _) x
          · have HK := hidI (srA_go (is := isb) HR.out HR'.out hg0 hh0 hd)
            have hdp : ¬ (st0 G, st0 H) = (-1, -1) := fun e => hd ⟨congrArg Prod.fst e, congrArg Prod.snd e⟩
            rw [decide_eq_false hdp] at heq
            obtain ⟨a1, a2, a3⟩ := sb_bd0 hg0
            obtain ⟨b1', b2, b3⟩ := sb_bd0 hh0
            have n1 := (sbA_ok hg0).1.n2
            have n2 := (sbA_ok hh0).1.n2
            have HF := hidI (mfirst_any (sbA G).1.es (sbA H).1.es (sbA G).1.n.toNat (sbA H).1.n.toNat L w0.heap.size B1 w0.heap.size B2 bs1 bs2 (st0 G) (st0 H) isb gi lb wr hT1 hT2 a1 b1' (by omega) (by omega) hL256 a2 a3 b2 b3 eg (hi _ _ wr))
            have HSO : Hid (srO G H isb = bfsA (sbA G).1.n.toNat (sbA H).1.n.toNat (sbA G).1.es (sbA H).1.es kpP isb L (st0 G) (st0 H)) := by
              unfold Hid srO
              rw [← HLm.out, Int.toNat_natCast]
            rw [← HSO.out] at HF
            have t0 := rt.at 0 rfl; have t1 := rt.at 1 rfl
            generalize srO G H isb = o at *
            generalize st0 G = s0 at *
            generalize st0 H = s1 at *
            generalize (sbA G).1.n.toNat = N1 at *
            generalize (sbA H).1.n.toNat = N2 at *
            clear hd hdp a1 a2 a3 b1' b2 b3 n1 n2 hT1 hT2 HSO
            go_wp2_with fail
            refine HF.out.mono ?_
            rintro e w3 ⟨q3, d3, rfl, hs3, hB3⟩
            go_wp2
            go_ret3
            exact RetSp.of HK.out hs3 (x.trans (hB3.mono x.size))
    · have HK := hidI (srA_arg (G := G) (H := H) (is := isb) (.inr (by rw [hr']; exact hr0')))
      have hrb : (r' == 0) = false := by simpa using hr0'
      have hrc : (r' != 0) = true := by simpa using hr0'
      clear hr hr' hr0'
      go_wp2
      go_ret3
      exact RetSp.of (l := []) HK.out (Sl.nil _ _ _) x2
  · have HK := hidI (srA_arg (G := G) (H := H) (is := isb) (.inl (by rw [hr]; exact hr0)))
    have hrb : (r == 0) = false := by simpa using hr0
    have hrc : (r != 0) = true := by simpa using hr0
    clear hr hr' hr0
    go_enter Tryz.func22, Tryz.ntmps22
    go_wp2_with fail
    rw [← hw0]
    clear hw0
    refine HC.out.mono ?_
    rintro e w1 ⟨rfl, hB1⟩
    go_wp2
    go_ret3
    exact RetSp.of (l := []) HK.out (Sl.nil _ _ _) (hB0.trans (hB1.mono hB0.size))
end Go.Proofs.YtmdjndbjfgncmaaGreatDoor
namespace Go.Proofs.YtmdjndbjfgncmaaGreatDoor
open Go.RowKit Go.Sort Go.Shelf Go.Lib

/-! ### Not too long -/
theorem parA_len (G : Gr) : (parA G).1.length ≤ 64 := by
  by_cases h : chkD G = 0
  · rw [parA_ok h]
    obtain ⟨hv, _⟩ := chkD_iff.1 h
    have := hv.n2
    have h2 : (clA G).length = G.n.toNat := clsN_len _
    show (clA G).length ≤ 64
    omega
  · rw [parA_bad h]; exact Nat.zero_le _
theorem norm_lenN (l : List Ed) : (norm l).length ≤ l.length := by
  have h1 : ∀ (x : Ed) (a : List Ed), (insE x a).length ≤ a.length + 1 := by
    intro x a
    induction a with
    | nil => simp [insE]
    | cons y a ih =>
      unfold insE
      split
      · simp
      · split
        · simp
        · simp only [List.length_cons]; omega
  have h2 : ∀ (l a : List Ed), (l.foldl (fun a x => insE x a) a).length ≤ a.length + l.length := by
    intro l
    induction l with
    | nil => intro a; simp
    | cons x l ih =>
      intro a
      have := ih (insE x a)
      have := h1 x a
      simp only [List.foldl_cons, List.length_cons]; omega
  simpa [norm] using h2 l []
theorem merA_len (G : Gr) : (merA G).1.es.length ≤ G.es.length ∧ (merA G).2.1.length ≤ 64 := by
  by_cases h : chkD G = 0
  · rw [merA_ok h]
    obtain ⟨hv, _⟩ := chkD_iff.1 h
    have := hv.n2
    have h2 : (clA G).length = G.n.toNat := clsN_len _
    refine ⟨?_, show (clA G).length ≤ 64 by omega⟩
    show (mgA G).1.es.length ≤ _
    unfold mgA makeA
    split
    · have := norm_lenN (G.es.map (mgE (clA G)))
      simpa using this
    · exact Nat.zero_le _
  · rw [merA_bad h]; exact ⟨Nat.zero_le _, Nat.zero_le _⟩
theorem bfs_len {f g : List Ed} {kp is : Int × Int → Bool} {L : Nat} : ∀ (m i : Nat) (l : List Pw) (w : List Int), (∀ y ∈ l, y.2.length ≤ i) → bfs f g kp is L m i l = some w → w.length ≤ i + m
  | 0, i, l, w, _, h => by simp [bfs] at h
  | m + 1, i, l, w, hl, h => by
    unfold bfs at h
    cases hx : l[i]? with
    | none => rw [hx] at h; cases h
    | some x =>
      rw [hx] at h
      have hm : x ∈ l := List.mem_of_getElem? hx
      simp only at h
      split at h
      · cases h
        have := hl x hm; omega
      · have := bfs_len m (i + 1) _ w (bRow_lens (hl x hm) (fun y hy => by have := hl y hy; omega) L) h
        omega
theorem sepA_len (G : Gr) (s t : Int) : (sepA G s t).1.length ≤ 5000 := by
  unfold sepA
  split
  · rename_i h
    split
    · exact Nat.zero_le _
    · obtain ⟨hv, _⟩ := chkD_iff.1 h
      have hn : G.n.toNat ≤ 64 := by have := hv.n2; omega
      have hN := Nat.mul_le_mul (show G.n.toNat + 1 ≤ 65 by omega) (show G.n.toNat + 1 ≤ 65 by omega)
      cases ho : sepO G s t with
      | none => exact Nat.zero_le _
      | some w =>
        have := bfs_len _ 0 _ w (fun y hy => by obtain rfl := List.mem_singleton.1 hy; simp) ho
        show w.length ≤ 5000
        omega
  · exact Nat.zero_le _

end Go.Proofs.YtmdjndbjfgncmaaGreatDoor
namespace Go.Proofs.YtmdjndbjfgncmaaGreatDoor
open Go.RowKit Go.Sort Go.Shelf Go.Lib

theorem det13_ok {G : Gr} (h : det13A G = true) : chkD G = 0 ∧ G.es.length ≤ 20 ∧ G.n ≤ 6 := by
  unfold det13A at h
  simp only [Bool.and_eq_true, Bool.not_eq_true', decide_eq_true_iff] at h
  obtain ⟨h1, h2, h3⟩ := h
  have hc : chkG G = 0 := by
    by_cases hc : chkG G = 0
    · exact hc
    · rw [detA_bad hc] at h2; cases h2
  rw [detA_ok hc] at h3
  have hv := chkG_ok.1 hc
  refine ⟨chkD_ok hc h3, ?_⟩
  unfold gr13 at h1
  simp only [Bool.or_eq_false_iff, Bool.and_eq_false_iff, decide_eq_false_iff_not] at h1
  have := hv.n2
  omega
theorem leadsA_run {G : Gr} (hv : Vg G) (hu : Uq G.es) : ∀ (w : List Int) (x : Int), -1 ≤ x → x < G.n → Lab G.q.toNat w → leadsA G (toS x) w = toS (run1 G.es x w)
  | [], x, _, _, _ => rfl
  | b :: w, x, h1, h2, hl => by
    have hb := hl b (by simp)
    have hq := hv.q1
    have hcs : chkS G.n none (toS x) = 0 := by
      unfold toS
      split
      · rfl
      · rw [chkS_cons, if_neg (by omega)]; rfl
    have e : stepA G (toS x) b = (toS (nxt G.es x b), 0) := by
      unfold stepA
      rw [if_pos (chkG_ok.2 hv), if_pos hcs, if_neg (by omega), next_toS hv hu]
    have hn := nxt_bd hv x b
    rw [leadsA, e]
    simp only [if_true]
    rw [leadsA_run hv hu w _ hn.1 hn.2 (fun y hy => hl y (by simp [hy])), run1_cons]

theorem sl_one (w : World) (x : Int) : Sl (w.alloc (.cells #[.int .i64 x] 3)) (Value.int .i64) (some ⟨w.heap.size, 0, none⟩) [x] :=
  Sl.of_vrow (l := [x]) (VRow.new w 3 [.int .i64 x])
theorem sl_one_drew (w : World) (x : Int) : Sl (w.alloc (.cells #[.int .i64 x] 3)).drew (Value.int .i64) (some ⟨w.heap.size, 0, none⟩) [x] := sl_one w x
theorem two_sl (w : World) (x y : Int) : RowKit.Below w.heap.size w ((w.alloc (.cells #[.int .i64 x] 3)).alloc (.cells #[.int .i64 y] 3)).drew ∧
    Sl ((w.alloc (.cells #[.int .i64 x] 3)).alloc (.cells #[.int .i64 y] 3)).drew (Value.int .i64) (some ⟨w.heap.size, 0, none⟩) [x] ∧
    Sl ((w.alloc (.cells #[.int .i64 x] 3)).alloc (.cells #[.int .i64 y] 3)).drew (Value.int .i64) (some ⟨w.heap.size + 1, 0, none⟩) [y] := by
  refine ⟨(((RowKit.Below.refl _ _).alloc (Nat.le_refl _) _).alloc (by simp) _).drew, ?_, ?_⟩
  · have h : Sl ((w.alloc (.cells #[.int .i64 x] 3)).alloc (.cells #[.int .i64 y] 3)) (Value.int .i64) (some ⟨w.heap.size, 0, none⟩) [x] := (sl_one w x).below ((RowKit.Below.refl _ _).alloc (Nat.le_refl _) _)
    exact h
  · have h := sl_one_drew (w.alloc (.cells #[.int .i64 x] 3)) y
    rw [World.size_alloc] at h
    exact h
end Go.Proofs.YtmdjndbjfgncmaaGreatDoor
namespace Go.Proofs.YtmdjndbjfgncmaaGreatDoor
open Go.RowKit

theorem mxC_ge : ∀ {l : List Int} {x : Int}, x ∈ l → x + 1 ≤ mxC l := by
  have key : ∀ (l : List Int) (a : Int), a ≤ l.foldl (fun n x => max n (x + 1)) a ∧ ∀ x ∈ l, x + 1 ≤ l.foldl (fun n x => max n (x + 1)) a := by
    intro l
    induction l with
    | nil => intro a; exact ⟨Int.le_refl _, fun x hx => by cases hx⟩
    | cons y l ih =>
      intro a
      obtain ⟨h1, h2⟩ := ih (max a (y + 1))
      refine ⟨by simp only [List.foldl_cons]; omega, fun x hx => ?_⟩
      simp only [List.foldl_cons]
      rcases List.mem_cons.1 hx with rfl | hx
      · omega
      · exact h2 x hx
  intro l x hx
  exact (key l 0).2 x hx
theorem mxC_le {l : List Int} {b : Int} (hb : 0 ≤ b) (h : ∀ x ∈ l, x + 1 ≤ b) : mxC l ≤ b := by
  have key : ∀ (l : List Int) (a : Int), a ≤ b → (∀ x ∈ l, x + 1 ≤ b) → l.foldl (fun n x => max n (x + 1)) a ≤ b := by
    intro l
    induction l with
    | nil => intro a h _; exact h
    | cons y l ih =>
      intro a ha h
      have := h y (by simp)
      exact ih _ (show max a (y + 1) ≤ b by omega) (fun x hx => h x (by simp [hx]))
  exact key l 0 hb h
theorem mxC_nn (l : List Int) : 0 ≤ mxC l := by
  cases l with
  | nil => exact Int.le_refl _
  | cons x l =>
    have key : ∀ (l : List Int) (a : Int), a ≤ l.foldl (fun n x => max n (x + 1)) a := by
      intro l
      induction l with
      | nil => intro a; exact Int.le_refl _
      | cons y l ih => intro a; have := ih (max a (y + 1)); simp only [List.foldl_cons]; omega
    exact key _ 0
theorem frs_num {R : Nat → Nat → Bool} : ∀ (n k : Nat), k < (frsR R n).length → ∃ s, s < n ∧ numR R s = k
  | 0, k, h => by simp [frsR] at h
  | n + 1, k, h => by
    by_cases hk : k < (frsR R n).length
    · obtain ⟨s, h1, h2⟩ := frs_num n k hk
      exact ⟨s, by omega, h2⟩
    · cases hf : fstR R n
      · rw [frsR_stay hf] at h; exact absurd h hk
      · rw [frsR_go hf, List.length_append, List.length_singleton] at h
        exact ⟨n, by omega, by rw [numR_new hf]; omega⟩
/-- The classes' numbers: from 0 on, without a gap. -/
theorem cl_num {G : Gr} {s : Nat} (hs : s < G.n.toNat) : cg (clA G) s = numR (eqA (clA G)) s := by
  have h : clA G = (List.range G.n.toNat).map (numR (eqA (clA G))) := canon (q := G.q.toNat) (n := G.n.toNat) (es := G.es) G.n.toNat
  conv => lhs; rw [h]
  exact cg_map _ hs
theorem cl_mem {G : Gr} {s : Nat} (hs : s < G.n.toNat) : cg (clA G) s ∈ clA G := by
  have hl : (clA G).length = G.n.toNat := clsN_len _
  have e : cg (clA G) s = (clA G)[s]'(by omega) := by unfold cg; simp [List.getD, hl, hs]
  rw [e]; exact List.getElem_mem _
theorem cl_lt {G : Gr} {s : Nat} (hs : s < G.n.toNat) : 0 ≤ cg (clA G) s ∧ cg (clA G) s < mxC (clA G) := by
  have h1 := cl_bd _ (cl_mem hs)
  have h2 := mxC_ge (cl_mem hs)
  omega
theorem cl_le {G : Gr} : mxC (clA G) ≤ G.n.toNat := mxC_le (by omega) (fun x hx => by have := cl_bd x hx; omega)
theorem cl_onto {G : Gr} {k : Nat} (hk : (k : Int) < mxC (clA G)) : ∃ s, s < G.n.toNat ∧ cg (clA G) s = k := by
  have h1 : mxC (clA G) ≤ ((frsR (eqA (clA G)) G.n.toNat).length : Int) := mxC_le (by omega) (fun x hx => by
    obtain ⟨s, hs, rfl⟩ := List.mem_iff_getElem.1 hx
    have hl : (clA G).length = G.n.toNat := clsN_len _
    have hs2 : s < G.n.toNat := by omega
    have e : cg (clA G) s = (clA G)[s]'hs := by unfold cg; simp [List.getD, hs]
    have h3 := numR_bd (eqA_eqv (clA G)) s G.n.toNat hs2
    rw [← cl_num hs2, e] at h3
    omega)
  obtain ⟨s, hs, h2⟩ := frs_num (R := eqA (clA G)) G.n.toNat k (by omega)
  exact ⟨s, hs, by rw [cl_num hs, h2]⟩
theorem cl_step {G : Gr} {r s a : Nat} (hr : r < G.n.toNat) (hs : s < G.n.toNat) (ha : a < G.q.toNat) (h : cg (clA G) r = cg (clA G) s) :
    (tgt G.es r a < 0 ↔ tgt G.es s a < 0) ∧ (0 ≤ tgt G.es r a → cg (clA G) (tgt G.es r a) = cg (clA G) (tgt G.es s a)) := by
  have h2 : relA G.q.toNat G.es (clA G) r s = true := by
    have := eqA_succ (q := G.q.toNat) (n := G.n.toNat) (es := G.es) G.n.toNat hr hs
    rw [cls_fix] at this
    show relA G.q.toNat G.es (clsN G.q.toNat G.n.toNat G.es G.n.toNat) r s = true
    rw [← this]
    unfold eqA
    rw [decide_eq_true_iff]; exact h
  exact (relA_iff.1 h2).2 a ha

/-! ### The merged graph -/
def mgG (G : Gr) : Gr := ⟨G.q, mxC (clA G), norm (G.es.map (mgE (clA G)))⟩
theorem mem_mg {G : Gr} {y : Ed} : y ∈ (mgG G).es ↔ ∃ x ∈ G.es, mgE (clA G) x = y := by
  show y ∈ norm _ ↔ _
  rw [mem_norm, List.mem_map]
theorem nat_of {z : Int} (h : 0 ≤ z) : ∃ n : Nat, z = n := ⟨z.toNat, by omega⟩
section
variable {G : Gr}
theorem mg_vg (hv : Vg G) : Vg (mgG G) where
  q1 := hv.q1
  q2 := hv.q2
  n1 := mxC_nn _
  n2 := by
    have := cl_le (G := G); have := hv.n2; have := hv.n1
    show mxC (clA G) ≤ 64
    omega
  len := by
    have h := norm_lenN (G.es.map (mgE (clA G)))
    rw [List.length_map] at h
    exact Nat.le_trans h hv.len
  ins := fun y hy => by
    obtain ⟨x, hx, rfl⟩ := mem_mg.1 hy
    obtain ⟨h1, h2, h3, h4, h5, h6⟩ := hv.ins x hx
    obtain ⟨f, hf⟩ := nat_of h1
    obtain ⟨t, ht⟩ := nat_of h3
    have e1 := cl_lt (G := G) (s := f) (by omega)
    have e2 := cl_lt (G := G) (s := t) (by omega)
    show 0 ≤ cg (clA G) x.f ∧ 0 ≤ x.l ∧ 0 ≤ cg (clA G) x.t ∧ cg (clA G) x.f < mxC (clA G) ∧ cg (clA G) x.t < mxC (clA G) ∧ x.l < G.q
    rw [hf, ht]
    exact ⟨e1.1, h2, e2.1, e1.2, e2.2, h6⟩
  srt := norm_srt _
theorem mg_eq (hv : Vg G) : mgA G = (mgG G, 0) := makeA_ok (chkG_ok.2 (mg_vg hv))
/-- Where an edge of the merged graph leads. -/
theorem mg_edge (hv : Vg G) (hu : Uq G.es) {x : Ed} (hx : x ∈ G.es) {s : Nat} (hs : s < G.n.toNat) (h : cg (clA G) x.f = cg (clA G) s) : 0 ≤ tgt G.es s x.l ∧ cg (clA G) x.t = cg (clA G) (tgt G.es s x.l) := by
  obtain ⟨h1, h2, h3, h4, h5, h6⟩ := hv.ins x hx
  obtain ⟨f, hf⟩ := nat_of h1
  obtain ⟨a, ha⟩ := nat_of h2
  have e := tgt_at hu hx
  rw [hf, ha] at e
  rw [hf] at h
  obtain ⟨k1, k2⟩ := cl_step (G := G) (r := f) (s := s) (a := a) (by omega) hs (by omega) h
  rw [e] at k1 k2
  rw [ha]
  refine ⟨?_, k2 h3⟩
  by_cases h0 : tgt G.es (s : Int) (a : Int) < 0
  · have := k1.2 h0; omega
  · omega
theorem mg_uq (hv : Vg G) (hu : Uq G.es) {x y : Ed} (hx : x ∈ (mgG G).es) (hy : y ∈ (mgG G).es) (hf : x.f = y.f) (hl : x.l = y.l) : x = y := by
  obtain ⟨a, ha, rfl⟩ := mem_mg.1 hx
  obtain ⟨b, hb, rfl⟩ := mem_mg.1 hy
  have hf : cg (clA G) a.f = cg (clA G) b.f := hf
  have hl : a.l = b.l := hl
  obtain ⟨h1, h2, h3, h4, h5, h6⟩ := hv.ins b hb
  obtain ⟨f, hf2⟩ := nat_of h1
  rw [hf2] at hf
  have e := mg_edge hv hu ha (s := f) (by omega) hf
  have e2 := tgt_at hu hb
  rw [hf2] at e2
  rw [hl, e2] at e
  show (⟨cg (clA G) a.f, a.l, cg (clA G) a.t⟩ : Ed) = ⟨cg (clA G) b.f, b.l, cg (clA G) b.t⟩
  rw [hf, hf2, hl, e.2]
theorem mg_det (hv : Vg G) (hu : Uq G.es) : detB (mgG G).es = true := detB_t (fun k hk ⟨h1, h2⟩ => by
  have e := mg_uq hv hu (List.getElem_mem (by omega : k < (mgG G).es.length)) (List.getElem_mem hk) h1 h2
  have h := List.pairwise_iff_getElem.1 (mg_vg hv).srt k (k + 1) (by omega) hk (by omega)
  rw [e, ltE_irrefl] at h; cases h)
theorem mg_chk (hv : Vg G) (hu : Uq G.es) : chkD (mgG G) = 0 := chkD_iff.2 ⟨mg_vg hv, mg_det hv hu⟩
theorem mg_uq' (hv : Vg G) (hu : Uq G.es) : Uq (mgG G).es := uq_det (mg_vg hv) (mg_det hv hu)
theorem mg_tgt (hv : Vg G) (hu : Uq G.es) {s : Nat} (hs : s < G.n.toNat) (a : Int) : tgt (mgG G).es (cg (clA G) s) a = if tgt G.es s a < 0 then -1 else cg (clA G) (tgt G.es s a) := by
  by_cases h0 : tgt G.es s a < 0
  · rw [if_pos h0]
    by_cases h1 : tgt (mgG G).es (cg (clA G) s) a = -1
    · exact h1
    · obtain ⟨y, hy, hf, hl, _⟩ := tgt_mem h1
      obtain ⟨x, hx, rfl⟩ := mem_mg.1 hy
      have hf : cg (clA G) x.f = cg (clA G) s := hf
      have hl : x.l = a := hl
      have := (mg_edge hv hu hx hs hf).1
      rw [hl] at this; omega
  · rw [if_neg h0]
    obtain ⟨x, hx, hf, hl, ht⟩ := tgt_mem (es := G.es) (s := s) (a := a) (by omega)
    have h := tgt_at (mg_uq' hv hu) (mem_mg.2 ⟨x, hx, rfl⟩)
    change tgt (mgG G).es (cg (clA G) x.f) x.l = cg (clA G) x.t at h
    rw [hf, hl, ht] at h
    exact h
theorem mg_run (hv : Vg G) (hu : Uq G.es) : ∀ (w : List Int) {s : Nat}, s < G.n.toNat → (run1 (mgG G).es (cg (clA G) s) w < 0 ↔ run1 G.es s w < 0)
  | [], s, hs => by
    have := (cl_lt hs).1
    show (cg (clA G) s < 0 ↔ (s : Int) < 0)
    omega
  | a :: w, s, hs => by
    have h0 := (cl_lt hs).1
    rw [run1_cons, run1_cons, nxt_pos (by omega), nxt_pos (by omega), mg_tgt hv hu hs]
    have hb := tgt_bd hv s a
    by_cases h1 : tgt G.es s a < 0
    · rw [if_pos h1]
      have e1 := run1_neg (es := (mgG G).es) w (s := -1) (by omega)
      have e2 := run1_neg (es := G.es) w h1
      exact ⟨fun _ => e2, fun _ => e1⟩
    · rw [if_neg h1]
      obtain ⟨t, ht⟩ := nat_of (show 0 ≤ tgt G.es s a by omega)
      rw [ht] at hb ⊢
      have := hv.n1
      exact mg_run hv hu w (by omega)
/-- Each state of the merged graph is a class of its own. -/
theorem mg_inj (hv : Vg G) (hu : Uq G.es) {c d : Nat} (hc : c < (mgG G).n.toNat) (hd : d < (mgG G).n.toNat) (h : cg (clA (mgG G)) c = cg (clA (mgG G)) d) : c = d := by
  have hn : (mgG G).n = mxC (clA G) := rfl
  have hb : ∀ s a, tgt (mgG G).es s a < ((mgG G).n.toNat : Int) := fun s a => by rcases tgt_lt (mg_vg hv) s a with h | h <;> omega
  have hb2 : ∀ s a, tgt G.es s a < (G.n.toNat : Int) := fun s a => by
    obtain ⟨s', hs', _⟩ := cl_onto (G := G) (k := c) (by omega)
    rcases tgt_lt hv s a with h | h <;> omega
  obtain ⟨s, hs, e1⟩ := cl_onto (G := G) (k := c) (by omega)
  obtain ⟨t, ht, e2⟩ := cl_onto (G := G) (k := d) (by omega)
  have k1 := cls_agree (q := (mgG G).q.toNat) hb hc hd h
  have k2 : cg (clA G) s = cg (clA G) t := cls_of_agree (q := G.q.toNat) hb2 G.n.toNat hs ht (fun w hw => by
    have h1 := mg_run hv hu w hs
    have h2 := mg_run hv hu w ht
    have h3 := k1 w hw
    rw [e1] at h1
    rw [e2] at h2
    exact h1.symm.trans (h3.trans h2))
  omega
theorem mg_cl (hv : Vg G) (hu : Uq G.es) : clA (mgG G) = upto (mgG G).n.toNat := by
  have hcn : clA (mgG G) = (List.range (mgG G).n.toNat).map (numR (eqA (clA (mgG G)))) := canon (q := (mgG G).q.toNat) (n := (mgG G).n.toNat) (es := (mgG G).es) (mgG G).n.toNat
  rw [hcn]
  unfold upto
  apply List.map_congr_left
  intro s hs
  have hs : s < (mgG G).n.toNat := by simpa using hs
  rw [numR_congr (R' := fun _ _ => false) hs (fun u hu2 t ht => by
    show decide (cg (clA (mgG G)) t = cg (clA (mgG G)) u) = false
    rw [decide_eq_false_iff_not]
    intro e
    have := mg_inj hv hu (by omega) hu2 e
    omega)]
  have hf : ∀ x, fstR (fun _ _ => false) x = true := fun x => fstR_iff.2 (fun _ _ => rfl)
  rw [numR_new (hf s)]
  have : frsR (fun _ _ => false) s = List.range s := List.filter_eq_self.2 (fun x _ => hf x)
  rw [this, List.length_range]
theorem mxC_upto : ∀ n : Nat, mxC (upto n) = n
  | 0 => rfl
  | n + 1 => by rw [upto_succ, mxC_snoc, mxC_upto n]; omega
theorem cg_upto {n s : Nat} (h : s < n) : cg (upto n) s = s := cg_map (fun (i : Nat) => (i : Int)) h
theorem mg_again (hv : Vg G) (hu : Uq G.es) : merA (mgG G) = (mgG G, upto (mgG G).n.toNat, 0) := by
  have hm : (mgG G).es.map (mgE (upto (mgG G).n.toNat)) = (mgG G).es := by
    conv => rhs; rw [← List.map_id (mgG G).es]
    apply List.map_congr_left
    intro x hx
    obtain ⟨h1, h2, h3, h4, h5, h6⟩ := (mg_vg hv).ins x hx
    obtain ⟨f, hf⟩ := nat_of h1
    obtain ⟨t, ht⟩ := nat_of h3
    have e1 : cg (upto (mgG G).n.toNat) x.f = x.f := by rw [hf]; exact cg_upto (by omega)
    have e2 : cg (upto (mgG G).n.toNat) x.t = x.t := by rw [ht]; exact cg_upto (by omega)
    show (⟨cg (upto (mgG G).n.toNat) x.f, x.l, cg (upto (mgG G).n.toNat) x.t⟩ : Ed) = x
    rw [e1, e2]
  have hmg : mgA (mgG G) = (mgG G, 0) := by
    unfold mgA
    rw [mg_cl hv hu, hm, mxC_upto]
    have hn := (mg_vg hv).n1
    have e : makeA (mgG G).q ((mgG G).n.toNat : Int) (mgG G).es = makeA (mgG G).q (mgG G).n (mgG G).es := by rw [Int.toNat_of_nonneg hn]
    rw [e]
    have hns := norm_of_srt (mg_vg hv).srt
    have hck : chkG ⟨(mgG G).q, (mgG G).n, norm (mgG G).es⟩ = 0 := by rw [hns]; exact chkG_ok.2 (mg_vg hv)
    rw [makeA_ok hck, hns]
  rw [merA_ok (mg_chk hv hu), hmg, mg_cl hv hu]
end
end Go.Proofs.YtmdjndbjfgncmaaGreatDoor
