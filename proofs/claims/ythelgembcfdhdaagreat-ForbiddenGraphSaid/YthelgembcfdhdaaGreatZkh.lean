/-
  Words, plain lemmas and walks, merged: Fn, Fo, Gk, Gp, Gl, Gm, Gn, Gu, Gq, He.
-/
import Derived.Test.YthelgembcfdhdaaGreatZkg
import Derived.Lib.SlicesCompact
import Derived.Test.YthelgembcfdhdaaGreatZkf
import Derived.Test.YthelgembcfdhdaaGreatZkd
import Derived.Test.YthelgembcfdhdaaGreatZkb
import Derived.Shelf.SlicesE.DeleteFunc
set_option linter.unusedVariables false
set_option linter.unusedSimpArgs false
namespace Go.Proofs.YthelgembcfdhdaaGreat
open Go.RowKit Go.Sort Go.Shelf Go.ChangeMaps Go.MapKept Go.Maps
attribute [local go_sem] Oper.semAt_some

theorem nodup_le : ∀ {xs l : List ByteArray}, xs.Nodup → (∀ x ∈ xs, x ∈ l) → xs.length ≤ l.length
  | [], _, _, _ => by simp
  | x :: xs, l, hn, hs => by
    have hn' := List.nodup_cons.1 hn
    have hx := hs x (by simp)
    have ih := nodup_le (xs := xs) (l := l.filter (fun y => !decide (y = x))) hn'.2 (fun y hy => List.mem_filter.2 ⟨hs y (by simp [hy]), by
      have : y ≠ x := fun e => hn'.1 (by rw [← e]; exact hy)
      simp [this]⟩)
    have h2 : (l.filter (fun y => !decide (y = x))).length < l.length := List.length_filter_lt_length_iff_exists.2 ⟨x, hx, by simp⟩
    simp only [List.length_cons]
    omega
/-- The words of a list, as the map holds them. -/
def inF (l : List ByteArray) : ByteArray → Option Unit := fun u => if l.any (fun y => decide (y = u)) = true then some () else none
theorem inF_some {l : List ByteArray} {u : ByteArray} : inF l u = some () ↔ u ∈ l := by
  unfold inF
  by_cases h : l.any (fun y => decide (y = u)) = true
  · rw [if_pos h]
    refine ⟨fun _ => ?_, fun _ => rfl⟩
    obtain ⟨y, hy, e⟩ := List.any_eq_true.1 h
    rw [← of_decide_eq_true e]; exact hy
  · rw [if_neg h]
    constructor
    · intro e; cases e
    · intro hu; exact absurd (List.any_eq_true.2 ⟨u, hu, by simp⟩) h
def isF (l : List ByteArray) (u : ByteArray) : Bool := (inF l u).isSome
theorem isF_iff {l : List ByteArray} {u : ByteArray} : isF l u = true ↔ u ∈ l := by
  rw [← inF_some]; unfold isF
  cases inF l u <;> simp
theorem inF_succ (l : List ByteArray) (k : Nat) (h : k < l.length) (u : ByteArray) : msetB (inF (l.take k)) l[k] u = inF (l.take (k + 1)) u := by
  unfold msetB inF
  rw [List.take_succ_eq_append_getElem h, List.any_append, List.any_cons, List.any_nil, Bool.or_false]
  by_cases e : u = l[k]
  · rw [if_pos e, if_pos (by simp [e])]
  · have e' : decide (l[k] = u) = false := decide_eq_false (fun h => e h.symm)
    rw [if_neg e, e', Bool.or_false]
theorem MpT.congr {w : World} {b : Nat} {f g : ByteArray → Option Unit} (h : MpT w b f) (e : ∀ a, f a = g a) : MpT w b g := by
  have : f = g := funext e
  exact this ▸ h
/-- What a round asks of a factor. -/
def fcB (l : List ByteArray) (w u : ByteArray) : Bool := decide (u = w) || !isF l u
def alB (l : List ByteArray) (x : ByteArray) (pre : List (SubB x)) : Bool := pre.all (fun u => fcB l x u.1)
theorem alB_snoc (l : List ByteArray) (x : ByteArray) (pre : List (SubB x)) (u : SubB x) : alB l x (pre ++ [u]) = (alB l x pre && fcB l x u.1) := by
  unfold alB; rw [List.all_append, List.all_cons, List.all_nil, Bool.and_true]
theorem alB_done {l : List ByteArray} {x : ByteArray} {ys : List (SubB x)} (h : ys.map (·.1) = facL x) (hl : ∀ u ∈ l, u ≠ (⟨#[]⟩ : ByteArray)) : alB l x ys = minB l x := by
  rw [← fac_min (w := x) (f := isF l) (fun u => isF_iff) hl, ← h, List.all_map]; rfl
theorem own_same {W W' : World} {B e size n : Nat} {v : Value} {xs : List Value} (ho : W.ownsRow B e size v n xs) (h : ∀ j, v.ownBlock = some j → W'.heap[j]? = W.heap[j]?) : W'.ownsRow B e size v n xs :=
  ⟨ho.1, ho.2.imp id (fun ⟨g, cap, cur, a, b, hh, z⟩ => ⟨g, cap, cur, a, b, (h g (by rw [a]; rfl)).trans hh, z⟩)⟩
theorem own_blk {W : World} {B e size n : Nat} {v : Value} {xs : List Value} (ho : W.ownsRow B e size v n xs) {j : Nat} {o : Obj} (hj : W.heap[j]? = some o) (hc : o.isCells = false) : v.ownBlock ≠ some j := by
  intro e
  rcases ho.2 with ⟨rfl, _⟩ | ⟨g, cap, cur, rfl, _, hh, _⟩
  · simp [Value.ownBlock] at e
  · obtain rfl : g = j := by simpa [Value.ownBlock] using e
    rw [hh] at hj; cases hj; cases hc
theorem own_sh1 {w : World} {B e size n : Nat} {v : Value} {xs : List Value} (h : w.ownsRow B e size v n xs) : ∃ p m c, v = .slice p m c := by
  rcases h.2 with ⟨rfl, _⟩ | ⟨g, cap, cur, rfl, _⟩
  · exact ⟨_, _, _, rfl⟩
  · exact ⟨_, _, _, rfl⟩
theorem own_base1 {W : World} {B B' e size n : Nat} {v : Value} {xs : List Value} (h : W.ownsRow B e size v n xs) (hB : B' ≤ B) : W.ownsRow B' e size v n xs :=
  ⟨h.1, h.2.imp id (fun ⟨g, cap, cur, a, b, z⟩ => ⟨g, cap, cur, a, Nat.le_trans hB b, z⟩)⟩
theorem own_cls {w : World} {B e size n : Nat} {v : Value} {xs : List Value} (h : w.ownsRow B e size v n xs) {j : Nat} {o : Obj} (hj : v.ownBlock = some j) (ho : w.heap[j]? = some o) : o.isCells = true := by
  rcases h.2 with ⟨rfl, _⟩ | ⟨g, cap, cur, rfl, _, hh, _⟩
  · simp [Value.ownBlock] at hj
  · obtain rfl : g = j := by simpa [Value.ownBlock] using hj
    rw [hh] at ho; cases ho; rfl
theorem ownFrom_keepsX {β : Type} (W0 : World) : OwnFrom W0.heap.size (fun (_ : β) W => KeepsOthers W0 W) := fun _ X Y row hs hg hr =>
  ⟨Nat.le_trans hs.size hg.size, fun i o hi ho => by
    have hlt := (Array.getElem?_eq_some_iff.1 hi).1
    exact (hg.block i (Nat.lt_of_lt_of_le hlt hs.size) (fun e => by have := (hr i e.symm).1; omega)).trans (hs.same i o hi ho)⟩
theorem ownFrom_kx {β : Type} {a : Nat} (W0 : World) : OwnFrom W0.heap.size (fun (_ : β) W => W0.heap.size ≤ W.heap.size ∧ KX a W0.heap.size W0 W) := fun _ X Y row hs hg hr =>
  ⟨Nat.le_trans hs.1 hg.size, fun i h1 h2 => (hg.block i (by have := hs.1; omega) (fun e => by have := (hr i e.symm).1; omega)).trans (hs.2 i h1 h2)⟩
theorem RetSe.own {l xs : List ByteArray} {k : Int} {w w' : World} {v : Value} {B n : Nat} (h : w'.ownsRow B 9 1 v n (xs.map Value.string)) (hx : xs = l) (hB : RowKit.Below w.heap.size w w') : RetSe (l, k) w (.returned (.tuple #[v, .int .i64 k])) w' := by
  obtain ⟨q, m, c, he, hn, hc, hs, hsl, hB'⟩ := RetSt.own h hx hB
  cases he
  exact ⟨q, m, c, rfl, hn, hc, hs, hsl, hB'⟩
/-- Where the rounds over the map stand. -/
def RInv (q : Int) (l : List ByteArray) (p : Option Addr) (c : Nat) (w : World) (bm bx r : Nat) (a : Act) (W : World) : Prop :=
  ∃ (ds : List Deferred) (ks : List ByteArray) (v : Value) (u2 u3 u8 u9 u11 u12 u13 u14 u15 u16 u17 u18 u19 u20 u21 u22 u23 u24 u25 u26 u27 u28 u29 u30 u32 u33 u34 u35 u36 u37 u38 u39 u40 u41 u42 u43 u44 u45 u46 u47 u48 u49 u50 u51 u52 u53 u54 u55 u56 u57 u58 : Value), a = { tmps := #[(.int .i64 q), (.slice p l.length c), u2, u3, (.slice none 0 0), (.int .i64 0), (.int .i64 0), (.pointer (some ⟨bx, 0, none⟩)), u8, u9, v, u11, u12, u13, u14, u15, u16, u17, u18, u19, u20, u21, u22, u23, u24, u25, u26, u27, u28, u29, u30, (.pointer (some ⟨r, 0, none⟩)), u32, u33, u34, u35, u36, u37, u38, u39, u40, u41, u42, u43, u44, u45, u46, u47, u48, u49, u50, u51, u52, u53, u54, u55, u56, u57, u58], defers := ds } ∧
    RgT W bm r ks (inF l) ∧ ks.Nodup ∧ (∀ x ∈ ks, x ∈ l) ∧ W.ownsRow (bx + 1) 9 1 v (ks.filter (minB l)).length ((ks.filter (minB l)).map Value.string) ∧ VRow W bx 61 [.map (some bm)] ∧ Marks w.heap.size W ds ∧ RowKit.Below w.heap.size w W ∧ bx + 1 ≤ W.heap.size

set_option maxRecDepth 100000 in
set_option maxHeartbeats 4000000 in
theorem fReduce_in (q : Int) (l : List ByteArray) (p : Option Addr) (c : Nat) (w : World) (hin : Sl w Value.string p l) (hl : l.length ≤ 64) (hz : Sz l) (he : errA q l = 0) (hne : ∀ u ∈ l, u ≠ (⟨#[]⟩ : ByteArray)) :
    CallsIn Fence.wide 9 Tryz.prog 13 #[.int .i64 q, .slice p l.length c] w (RetSe (redL l l.length, 0) w) := by
  have HIN := hidI hin; have HZ := hidI hz; have HNE := hidI hne
  have HE := hidI (fErrors_any q l p c w hin (by omega) hz)
  rw [he] at HE
  clear hin hz hne he
  obtain ⟨i0, hi0, hz0, hz1, hz3⟩ := info_parts infoStrF
  have hmm := @run_makeMap Tryz.prog
  refine callsIn_of_wp_marks Tryz.func13 rfl trivial ?_ rfl
  simp only [Tryz.ntmps13, List.size_toArray, List.length_cons, List.length_nil, Nat.reduceAdd, Nat.reduceSub, Array.replicate_succ, Array.replicate_zero, List.push_toArray, List.append_toArray, List.nil_append, List.cons_append]
  gi_wp2_with (refine ⟨trivial, ?_⟩; gi_at_call 35)
  refine (callsIn_wide.2 HE.out).mono ?_
  rintro e w1 ⟨rfl, hD1⟩
  have x1 := hD1.below w.heap.size
  have hz1' := x1.size
  gi_wp2
  have c7 : VRow ((w1.alloc (.map #[] 0)).alloc (.cells #[.map (some w1.heap.size)] 61)) (w1.heap.size + 1) 61 [.map (some w1.heap.size)] := VRow.new1 w1 _ _ _
  have hM0 : MpT ((w1.alloc (.map #[] 0)).alloc (.cells #[.map (some w1.heap.size)] 61)) w1.heap.size (inF (l.take 0)) :=
    ((MpT.made w1).congr (fun a => by simp [inF])).same (Below.heap_alloc _ _ _ (by simp))
  have x2 : RowKit.Below w.heap.size w ((w1.alloc (.map #[] 0)).alloc (.cells #[.map (some w1.heap.size)] 61)) := (x1.alloc hz1' _).alloc (by simp; omega) _
  gi_loopw [23] (fun iv wr => ∃ k : Nat, k ≤ l.length ∧ iv = .int .i64 k ∧ MpT wr w1.heap.size (inF (l.take k)) ∧ VRow wr (w1.heap.size + 1) 61 [.map (some w1.heap.size)] ∧ RowKit.Below w.heap.size w wr) (fun iv _ => l.length - (intOf iv).toNat)
  case atStart => exact ⟨0, by omega, rfl, hM0, c7, x2⟩
  case round =>
    clear c7 hM0 x2
    obtain ⟨k, hk, rfl, hM, c7, hB⟩ := hrel
    by_cases hlt : k < l.length
    · have hltI : (k : Int) < (l.length : Int) := by omega
      obtain ⟨b1, o1, rfl, hb1, hc1⟩ := (HIN.out.below hB).get k hlt
      have e0 := hc1 k hlt
      have d7 := c7.at 0 rfl
      have hs := HZ.out _ (List.getElem_mem hlt)
      have HN := hidI (inF_succ l k hlt)
      obtain ⟨w', hrun, hM', hT⟩ := hM.store l[k] (by unfold maxLen; omega)
      have hlt7 := c7.lt
      have hB' : RowKit.Below w.heap.size w w' := hB.grown hT.grown hB.size (fun j e => by cases e; omega)
      have c7' : VRow w' (w1.heap.size + 1) 61 [.map (some w1.heap.size)] := c7.grown hT.grown (by simp)
      generalize l[k] = x at *
      clear hc1
      gi_wp2
      go_roundw
      case rel => exact ⟨k + 1, by omega, by go_num, hM'.congr HN.out, c7', hB'⟩
      case measure => simp [intOf]; omega
    · obtain rfl : k = l.length := by omega
      have hltI : ¬ (l.length : Int) < (l.length : Int) := by omega
      rw [List.take_length] at hM
      have d7 := c7.at 0 rfl
      obtain ⟨W0, hrg, hR0, hs0, hg0⟩ := RgT.start hM
      have c70 := c7.grown hg0 (by simp)
      have hB0 : RowKit.Below w.heap.size w W0 := hB.grown hg0 hB.size (fun j e => by cases e)
      have hr7 := c7.lt
      gi_wp2
      clear d7 c7 hB hM hrg x1 hlt hltI
      refine wpIn_loop (fun a W => RInv q l p c w w1.heap.size (w1.heap.size + 1) wr.heap.size a W) (fun _ W => rgLeft W w1.heap.size wr.heap.size) ⟨[], [], .slice none 0 0, _, _, _, _, _, _, _, _, _, _, _, _, _, _, _, _, _, _, _, _, _, _, _, _, _, _, _, _, _, _, _, _, _, _, _, _, _, _, _, _, _, _, _, _, _, _, _, _, _, _, _, rfl, hR0, by simp, by simp, World.ownsRow_nil _ _ _ _, c70, trivial, hB0, by omega⟩ ?_
      clear hR0 hs0 hg0 c70 hB0
      rintro a W ⟨ds, ks, v, u2, u3, u8, u9, u11, u12, u13, u14, u15, u16, u17, u18, u19, u20, u21, u22, u23, u24, u25, u26, u27, u28, u29, u30, u32, u33, u34, u35, u36, u37, u38, u39, u40, u41, u42, u43, u44, u45, u46, u47, u48, u49, u50, u51, u52, u53, u54, u55, u56, u57, u58, rfl, hR, hnd, hsub, hown, c7, hM, hB, hge⟩
      have hkl := nodup_le hnd hsub
      have hfl : (ks.filter (minB l)).length ≤ ks.length := List.length_filter_le _ _
      have hRl := hR.lt
      obtain ⟨oi, hoi, hoc, how⟩ := hR.iter
      rcases hR.next 0 with ⟨hall, hrun⟩ | ⟨x, W1, hfx, hxk, hxs, hrun, hR1, hlt1, hg1, hsz1, hen⟩
      · have HSR : Hid ((ks.filter (minB l)).mergeSort (fun x y => !(ltOf ordB) y x) = redL l l.length) := red_sort (hnd.filter _) (fun z => by
          rw [List.mem_filter]
          exact ⟨fun h => ⟨hsub z h.1, h.2⟩, fun h => ⟨hall z (inF_some.2 h.1), h.2⟩⟩)
        gi_wp2_with (refine ⟨trivial, ?_⟩; gi_at_call 22)
        refine (callsIn_wide.2 (sortB_own (ks.filter (minB l)) (w1.heap.size + 1 + 1) _ v W hown (by omega))).mono ?_
        rw [HSR.out]
        rintro e w3 ⟨rfl, hown3, G3⟩
        have hM3 := hM.others (KeepsOthers.of_grownBy G3 (fun j o e h => own_cls hown e h))
        have hB3 := hB.grown G3 hB.size (fun j e => by have := (hown.lt j e).1; omega)
        gi_wp2
        refine leaves_marks ds w3 hM3 (fun W' hW' => ?_)
        refine ⟨_, results_tmp2 (t := 4) (u := 5) rfl _ _ _, ?_⟩
        exact RetSe.own (own_same hown3 (fun j e => by
          obtain ⟨hj1, hj2⟩ := hown3.lt j e
          rw [Array.getElem?_eq_getElem hj2]
          exact hW'.cells j _ (Array.getElem?_eq_getElem hj2) (own_cls hown3 e (Array.getElem?_eq_getElem hj2)))) rfl (hB3.trans hW'.below)
      · have hxl : x ∈ l := inF_some.1 hfx
        have c71 : VRow W1 (w1.heap.size + 1) 61 [.map (some w1.heap.size)] := c7.grown hg1 (fun e => by have := Option.some.inj e; omega)
        have hown1 : W1.ownsRow (w1.heap.size + 1 + 1) 9 1 v (ks.filter (minB l)).length ((ks.filter (minB l)).map Value.string) :=
          own_same hown (fun j e => hg1.block j (hown.lt j e).2 (fun e' => own_blk hown hoi hoc (by rw [e, e'])))
        have hM1 : Marks w.heap.size W1 ds := hM.keep (fun D hD hk _ => by
          rw [hg1.block D (Array.getElem?_eq_some_iff.1 hk).1 (fun e => by cases e; rw [hoi] at hk; cases hk; cases how)]; exact hk)
        have hB1 : RowKit.Below w.heap.size w W1 := hB.grown hg1 hB.size (fun j e => by have := Option.some.inj e; omega)
        have hge1 : w1.heap.size + 1 + 1 ≤ W1.heap.size := by rw [hsz1]; exact hge
        have hr1 : wr.heap.size < W1.heap.size := hR1.lt.2.1
        have hsx := HZ.out x hxl
        clear hsz1 hg1 hoi hoc how hR hown c7 hM hB hge
        gi_wp2_with (refine ⟨trivial, ?_⟩; gi_at_call 36)
        refine (factors_in Fence.wide 8 trivial rfl x _).mono ?_
        rintro e w' ⟨rfl, rfl⟩
        gi_wp2
        obtain ⟨V0, hV0⟩ : ∃ V0, V0 = ((W1.alloc (.cells #[.string x] 9)).alloc (.cells #[.bool true] 4)).alloc (.cells #[.string x] 9) := ⟨_, rfl⟩
        have y1 : VRow V0 W1.heap.size 9 [.string x] := by subst hV0; exact ((VRow.new W1 _ _).alloc _).alloc _
        have y2 : VRow V0 (W1.heap.size + 1) 4 [.bool true] := by subst hV0; exact (VRow.new1 W1 _ _ _).alloc _
        have y3 : VRow V0 (W1.heap.size + 1 + 1) 9 [.string x] := by subst hV0; exact VRow.new2 W1 _ _ _ _
        have hsz : V0.heap.size = W1.heap.size + 3 := by subst hV0; simp
        have hBV : RowKit.Below w.heap.size w V0 := by subst hV0; exact ((hB1.alloc hB1.size _).alloc (by simp; omega) _).alloc (by simp; omega) _
        have hKV : KeepsOthers W1 V0 := by subst hV0; exact ((KeepsOthers.alloc _ _).trans (KeepsOthers.alloc _ _)).trans (KeepsOthers.alloc _ _)
        have hlow : ∀ i, i < W1.heap.size → V0.heap[i]? = W1.heap[i]? := fun i hi => by
          subst hV0
          rw [Below.heap_alloc _ _ i (by simp; omega), Below.heap_alloc _ _ i (by simp; omega), Below.heap_alloc _ _ i hi]
        try rw [← hV0]
        clear hV0
        clear hrun hen
        have hw7 : w1.heap.size + 1 < W1.heap.size := by omega
        refine' wpIn_rangeFunc_ownG rfl (by omega) (gf := 72) (lb := #[.pointer (some ⟨W1.heap.size + 1 + 1, 0, none⟩)]) rfl trivial (enters_of Tryz.func72 (by kernel_rfl) rfl)
          (factors_stops Fence.wide 8 trivial rfl (by omega) (W1.heap.size + 1) V0.heap.size (W1.heap.size + 1 + 1) x (by omega) V0 (by omega) (by omega) y3) KX.trans (KX_b (Nat.le_refl _)) (RowKit.Below.refl _ _) (fun _ => rfl)
          (fun pre V => ((VRow V (W1.heap.size + 1) 4 [.bool (alB l x pre)] ∧ RowKit.Below w.heap.size w V) ∧ KeepsOthers V0 V) ∧ (V0.heap.size ≤ V.heap.size ∧ KX (W1.heap.size + 1) V0.heap.size V0 V))
          (fun _ _ _ => False)
          (OwnFrom.and (OwnFrom.and (OwnFrom.and ((VRow.own _ _ (fun (pre : List (SubB x)) => [.bool (alB l x pre)])).from _) (ownFrom_below (Nat.le_refl _) (by omega))) (ownFrom_keepsX _)) (ownFrom_kx _))
          (fun _ _ _ _ _ hs _ _ => hs)
          ⟨⟨⟨y2, hBV⟩, KeepsOthers.refl _⟩, Nat.le_refl _, KX.refl _ _ _⟩
          _ ?assign ?body ?done ?stop
        case assign =>
          intro l' u V K hK
          unfold encS
          gi_wp2
          exact hK
        case body =>
          rintro l' pre ⟨u, hu⟩ V ⟨⟨⟨k12, hB2⟩, hK2⟩, hz2, hX2⟩ hlen
          have k11 : VRow V W1.heap.size 9 [.string x] := (hX2 _ (by omega) (by omega)).trans y1
          have k7 : VRow V (w1.heap.size + 1) 61 [.map (some w1.heap.size)] := (hX2 _ (by omega) (by omega)).trans ((hlow _ (by omega)).trans c71)
          have hmp := hR1.map.same (w' := V) ((hX2 _ (by omega) (by omega)).trans (hlow _ (by omega)))
          have hlk : (Instr.lookup 61 (.map (some w1.heap.size)) (.string u) false).run Tryz.prog V = .ok (.bool (isF l u)) V := look_bool hmp u (by have := hsx; unfold maxLen; omega)
          have HFC : Hid (fcB l x u = (decide (u = x) || !isF l u)) := rfl
          have HPS : Hid (alB l x (pre ++ [(⟨u, hu⟩ : SubB x)]) = (alB l x pre && fcB l x u)) := alB_snoc l x pre ⟨u, hu⟩
          generalize alB l x pre = m at *
          generalize isF l u = fu at *
          generalize fcB l x u = fc at *
          have d12 := k12.at 0 rfl; have z12 := k12.frozen 0
          have d11 := k11.at 0 rfl
          have d7 := k7.at 0 rfl
          have HCL : Hid (∀ m', m' = (m && fc) → KeepsFrom V0.heap.size V (V.setCell ⟨W1.heap.size + 1, 0, none⟩ (.bool m')) ∧ KX (W1.heap.size + 1) V0.heap.size V (V.setCell ⟨W1.heap.size + 1, 0, none⟩ (.bool m')) ∧
              ((VRow (V.setCell ⟨W1.heap.size + 1, 0, none⟩ (.bool m')) (W1.heap.size + 1) 4 [.bool (alB l x (pre ++ [(⟨u, hu⟩ : SubB x)]))] ∧ RowKit.Below w.heap.size w (V.setCell ⟨W1.heap.size + 1, 0, none⟩ (.bool m'))) ∧ KeepsOthers V0 (V.setCell ⟨W1.heap.size + 1, 0, none⟩ (.bool m'))) ∧
              (V0.heap.size ≤ (V.setCell ⟨W1.heap.size + 1, 0, none⟩ (.bool m')).heap.size ∧ KX (W1.heap.size + 1) V0.heap.size V0 (V.setCell ⟨W1.heap.size + 1, 0, none⟩ (.bool m')))) := fun m' hm' => by
            have hkx : KX (W1.heap.size + 1) V0.heap.size V (V.setCell ⟨W1.heap.size + 1, 0, none⟩ (.bool m')) := fun j h1 h2 => Below.heap_setCell _ _ _ _ h2
            refine ⟨(KeepsOthers.setCell _ _ _).from _, hkx, ⟨⟨?_, hB2.setCell (show w.heap.size ≤ W1.heap.size + 1 by omega) _⟩, hK2.trans (KeepsOthers.setCell _ _ _)⟩, by rw [World.size_setCell]; exact hz2, hX2.trans hkx⟩
            rw [HPS.out, ← hm']
            exact VRow.set (i := 0) _ k12
          clear hmp
          cases m
          · gi_wp2
            exact HCL.out _ rfl
          · by_cases hux : u = x
            · have hb := bts_t hux
              have HV : Hid (true = (true && fc)) := by rw [Hid, HFC.out, decide_eq_true hux]; rfl
              clear hux
              gi_wp2
              exact HCL.out _ HV.out
            · have hb := bts_f hux
              have HV : Hid ((!fu) = (true && fc)) := by rw [Hid, HFC.out, decide_eq_false hux]; simp
              clear hux
              gi_wp2
              exact HCL.out _ HV.out
        case done =>
          rintro D ys V hD' hys ⟨⟨⟨k12, hB2⟩, hK2⟩, hz2, hX2⟩ hK
          have HM := hidI (alB_done hys HNE.out)
          rw [HM.out] at k12
          have n11 : VRow V W1.heap.size 9 [.string x] := (hX2 _ (by omega) (by omega)).trans y1
          have n7 : VRow V (w1.heap.size + 1) 61 [.map (some w1.heap.size)] := (hX2 _ (by omega) (by omega)).trans ((hlow _ (by omega)).trans c71)
          have hb7 : V.heap[w1.heap.size]? = W1.heap[w1.heap.size]? := (hX2 _ (by omega) (by omega)).trans (hlow _ (by omega))
          have hb31 : V.heap[wr.heap.size]? = W1.heap[wr.heap.size]? := (hX2 _ (by omega) (by omega)).trans (hlow _ (by omega))
          have hRV := hR1.same hb7 hb31
          have hlV : rgLeft V w1.heap.size wr.heap.size < rgLeft W w1.heap.size wr.heap.size := by rw [rgLeft_eq hb7 hb31]; exact hlt1
          have hownV := own_same hown1 (fun j e => (hX2 j (by have := (hown1.lt j e).2; omega) (by have := (hown1.lt j e).2; omega)).trans (hlow j (hown1.lt j e).2))
          have hMV : Marks w.heap.size V ({ target := .collected D, args := #[] } :: ds) :=
            (hM1.others (hKV.trans hK2)).cons (by have := hB1.size; omega) hK (fun d hd => by obtain ⟨D', h1, h2⟩ := hM1.lt d hd; exact ⟨D', h1, by omega⟩)
          have hnd2 : (ks ++ [x]).Nodup := by
            rw [List.nodup_append]
            exact ⟨hnd, by simp, fun a ha b hb e => hxk (by rw [← List.mem_singleton.1 hb, ← e]; exact ha)⟩
          have hsub2 : ∀ z ∈ ks ++ [x], z ∈ l := fun z hz => by
            rcases List.mem_append.1 hz with h | h
            · exact hsub z h
            · rw [List.mem_singleton.1 h]; exact hxl
          clear hys HM c71 hR1 hlt1 hown1 hM1 hB1 y1 y2 y3 hBV hKV hlow
          cases hmb : minB l x
          · have HF : Hid ((ks ++ [x]).filter (minB l) = ks.filter (minB l)) := by unfold Hid; rw [List.filter_append]; simp [hmb]
            rw [hmb] at k12
            have d12 := k12.at 0 rfl
            clear hmb
            gi_wp2
            exact ⟨⟨_, ks ++ [x], v, _, _, _, _, _, _, _, _, _, _, _, _, _, _, _, _, _, _, _, _, _, _, _, _, _, _, _, _, _, _, _, _, _, _, _, _, _, _, _, _, _, _, _, _, _, _, _, _, _, _, _, rfl, hRV, hnd2, hsub2, by rw [HF.out]; exact hownV, n7, hMV, hB2, by omega⟩, hlV⟩
          · have HF : Hid ((ks ++ [x]).filter (minB l) = ks.filter (minB l) ++ [x]) := by unfold Hid; rw [List.filter_append]; simp [hmb]
            rw [hmb] at k12
            have d12 := k12.at 0 rfl
            have d11 := n11.at 0 rfl
            clear hmb
            obtain ⟨o1, ho1, hc1⟩ := hRV.mapO
            obtain ⟨o2, ho2, hc2, _⟩ := hRV.iter
            have hn1 := own_blk hownV ho1 hc1
            have hn2 := own_blk hownV ho2 hc2
            have hRl2 := hRV.lt
            have hlw := hownV.lt
            have hne7 : some (w1.heap.size + 1) ≠ v.ownBlock := fun e => by have := (hlw _ e.symm).1; omega
            have hownA := hownV.alloc (.cells #[.string x] 9)
            have hnew := cell_one_at V (.string x) 9 V.heap.size rfl
            have hVw := hB2.size
            clear ho1 hc1 ho2 hc2
            gi_wp2_with (gi_at_builtin; refine wpListIn_append_own _ rfl _ _ 22 rfl (w1.heap.size + 1 + 1) 9 i0 (.string ⟨#[]⟩) 1 16 Tryz.underlying22 hi0 hz0 hz1 hz3 rfl (by decide) _ _ _ rfl hownA ⟨V.heap.size, 0, none⟩ 1 1 [.string x] rfl rfl hnew (by simp [Value.oneCell']) (by simp [maxLen]; omega) (by omega) (by simp; omega) ?_; intro v2 W2 hown' hgrow0 _; have hgrow : (V.alloc (.cells #[.string x] 9)).grownBy W2 v.ownBlock := hgrow0)
            have hg7 : W2.heap[w1.heap.size]? = V.heap[w1.heap.size]? := (hgrow.block _ (by simp; omega) (fun e => hn1 e.symm)).trans (Below.heap_alloc _ _ _ (by omega))
            have hg31 : W2.heap[wr.heap.size]? = V.heap[wr.heap.size]? := (hgrow.block _ (by simp; omega) (fun e => hn2 e.symm)).trans (Below.heap_alloc _ _ _ (by omega))
            have hgs := hgrow.size
            rw [World.size_alloc] at hgs
            exact ⟨⟨_, ks ++ [x], v2, _, _, _, _, _, _, _, _, _, _, _, _, _, _, _, _, _, _, _, _, _, _, _, _, _, _, _, _, _, _, _, _, _, _, _, _, _, _, _, _, _, _, _, _, _, _, _, _, _, _, _, rfl, hRV.same hg7 hg31, hnd2, hsub2, by rw [HF.out, List.length_append, List.map_append]; exact hown', (n7.alloc _).grown hgrow hne7,
              hMV.others ((KeepsOthers.alloc V _).trans (KeepsOthers.of_grownBy hgrow (fun j o e h => own_cls hownA e h))), (hB2.alloc hVw _).grown hgrow (by simp; omega) (fun j e => by have := (hlw j e).1; omega), by omega⟩, by rw [rgLeft_eq hg7 hg31]; exact hlV⟩
        case stop =>
          rintro D c pre W _ _ h _
          exact h.elim

theorem fst1_all {q : Int} : ∀ {l : List ByteArray}, fst1 q l = 0 → ∀ u ∈ l, oneA q u = 0
  | [], _, u, hu => by simp at hu
  | s :: l, h, u, hu => by
    unfold fst1 at h
    by_cases hs : oneA q s = 0
    · rw [if_neg (by simpa using hs)] at h
      rcases List.mem_cons.1 hu with e | e
      · subst e; exact hs
      · exact fst1_all h u e
    · rw [if_pos hs] at h; exact absurd h hs
theorem errA_ok {q : Int} {l : List ByteArray} (h : errA q l = 0) : ¬ (q < 1 ∨ 16 < q) ∧ l.length ≤ 64 ∧ ∀ u ∈ l, oneA q u = 0 := by
  unfold errA at h
  by_cases h1 : q < 1 ∨ 16 < q
  · rw [if_pos h1] at h; omega
  · rw [if_neg h1] at h
    by_cases h2 : 64 < l.length
    · rw [if_pos h2] at h; omega
    · rw [if_neg h2] at h
      exact ⟨h1, by omega, fst1_all h⟩
theorem oneA_ne {q : Int} {u : ByteArray} (h : oneA q u = 0) : u ≠ (⟨#[]⟩ : ByteArray) := by
  rintro rfl
  have : oneA q (⟨#[]⟩ : ByteArray) = 5 := if_pos rfl
  omega
set_option maxRecDepth 100000 in
set_option maxHeartbeats 1000000 in
theorem fReduce_any (q : Int) (l : List ByteArray) (p : Option Addr) (c : Nat) (w : World) (hin : Sl w Value.string p l) (hl : l.length ≤ 9223372036854775807) (hz : Sz l) :
    Calls Tryz.prog 13 #[.int .i64 q, .slice p l.length c] w (RetSe (redA q l) w) := by
  obtain ⟨r, hr⟩ : ∃ r, errA q l = r := ⟨_, rfl⟩
  by_cases hr0 : r = 0
  · subst hr0
    obtain ⟨_, h2, h3⟩ := errA_ok hr
    have : redA q l = (redL l l.length, 0) := by unfold redA; rw [if_neg (by simp [hr])]
    rw [this]
    exact callsIn_wide.1 (fReduce_in q l p c w hin h2 hz hr (fun u hu => oneA_ne (h3 u hu)))
  · have HE := hidI (fErrors_any q l p c w hin hl hz)
    have HX : Hid (redA q l = ([], r)) := by unfold Hid redA; rw [if_pos (by rw [hr]; exact hr0), hr]
    rw [hr] at HE
    have hrb : (r != 0) = true := by simpa using hr0
    clear hr hr0
    go_enter Tryz.func13, Tryz.ntmps13
    go_wp2_with fail
    refine HE.out.mono ?_
    rintro e w1 ⟨rfl, hD⟩
    have hB := hD.below w.heap.size
    go_wp2
    go_ret2
    exact RetSe.of HX.out rfl (Nat.le_refl _) (.inl ⟨rfl, rfl⟩) (.inl rfl) hB
end Go.Proofs.YthelgembcfdhdaaGreat
namespace Go.Proofs.YthelgembcfdhdaaGreat
open Go.RowKit Go.Sort Go.Shelf Go.Lib

theorem eqlS : EqlAt Tryz.prog 9 Value.string (fun x y => decide (x = y)) := by
  refine ⟨fun x y w => ?_, .string _ _⟩
  have : (x.toList == y.toList) = decide (x = y) := by
    by_cases h : x = y
    · rw [bts_t h, decide_eq_true h]
    · rw [bts_f h, decide_eq_false h]
  simp [binOp, Op.stringOp, this]
theorem neqS : NeqAt Tryz.prog 9 Value.string (fun x y => decide (x = y)) := by
  refine ⟨fun x y w => ?_, .string _ _⟩
  have : (x.toList == y.toList) = decide (x = y) := by
    by_cases h : x = y
    · rw [bts_t h, decide_eq_true h]
    · rw [bts_f h, decide_eq_false h]
  simp [binOp, Op.stringOp, this]
theorem compactB_any (l : List ByteArray) (B n : Nat) (v : Value) (w : World) (h : w.ownsRow B 9 1 v n (l.map Value.string)) (hn : n ≤ 100000) (hk : (Lib.compact l).length ≤ l.length) :
    Calls Tryz.prog 24 #[v] w fun e w' => ∃ v', e = .returned v' ∧ w'.ownsRow B 9 1 v' (Lib.compact l).length ((Lib.compact l).map Value.string) ∧ w.grownBy w' v.ownBlock := by
  have hl : l.length = n := by have := h.1; simpa using this
  subst hl
  rcases h.2 with ⟨rfl, h0⟩ | ⟨g, cap, cur, rfl, hg, hh, hc, hm, hs, ht⟩
  · have : l = [] := by cases l with
      | nil => rfl
      | cons a l => simp at h0
    subst this
    refine (Tryz.slices_Compact_string_empty none 0 w).mono ?_
    rintro e w' ⟨rfl, rfl⟩
    have e : Lib.compact ([] : List ByteArray) = [] := rfl
    rw [e]
    exact ⟨_, rfl, by simpa using h, rfl, rfl, rfl, Nat.le_refl _, fun _ _ _ => rfl⟩
  · have hH : Holds Value.string w g 0 l.toArray := by
      intro j hj
      have hj' : j < l.length := by simpa using hj
      refine ⟨?_, by simp [World.frozen?, hh]⟩
      have h1 : (cur.toList.take l.length)[j]? = (l.map Value.string)[j]? := by rw [show l.length = l.length * 1 by omega, ht]
      rw [List.getElem?_take_of_lt hj'] at h1
      simp only [World.cell?, hh, Nat.zero_add]
      rw [← Array.getElem?_toList, h1]
      simp [hj']
    have hcon := Tryz.slices_Compact_f24 Value.string oneS eqlS neqS (⟨#[]⟩ : ByteArray) (fun w => by kernel_rfl) g 0 cap l.toArray w hH (by simp; omega) (by simpa using hc)
    have hcon' : Calls Tryz.prog 24 #[.slice (some ⟨g, 0, none⟩) l.toArray.size cap] w _ := hcon
    rw [show l.toArray.size = l.length by simp] at hcon'
    refine hcon'.mono ?_
    rintro e w' ⟨rfl, q, rfl⟩
    have hkl : (Lib.compactUpTo l.toArray l.length).length ≤ l.length := hk
    have hb := grown_srtB (w := w) (g := g) (n := q) (os := #[]) (Lib.compactUpTo l.toArray l.length ++ List.replicate (l.length - (Lib.compactUpTo l.toArray l.length).length) (⟨#[]⟩ : ByteArray)).toArray
    have hp := heap_srtB (g := g) (n := q) (os := #[]) (Lib.compactUpTo l.toArray l.length ++ List.replicate (l.length - (Lib.compactUpTo l.toArray l.length).length) (⟨#[]⟩ : ByteArray)).toArray hh
    rw [grow_empty] at hb hp
    refine ⟨_, rfl, ?_, hb⟩
    show World.ownsRow _ B 9 1 _ (Lib.compactUpTo l.toArray l.length).length ((Lib.compactUpTo l.toArray l.length).map Value.string)
    generalize Lib.compactUpTo l.toArray l.length = m at *
    refine ⟨by simp, .inr ⟨g, cap, _, rfl, hg, hp, by omega, hm, by simp [putCells, hs], ?_⟩⟩
    have h1 := take_srtB cur (m ++ List.replicate (l.length - m.length) (⟨#[]⟩ : ByteArray)) (by simp; omega)
    have h2 := congrArg (List.take m.length) h1
    rw [List.take_take, List.map_append, List.take_append_of_le_length (by simp), Nat.min_eq_left (by simp)] at h2
    rw [Nat.mul_one, h2, ← List.length_map Value.string, List.take_length]

/-! ### A list sorted, then each word once -/
theorem cmpB_inv (d : Array ByteArray) (hs : ∀ i j, i ≤ j → j < d.size → ¬ ordB d[j]! d[i]! < 0) : ∀ m, m ≤ d.size → SrtB (Lib.compactUpTo d m) ∧ ∀ x, x ∈ Lib.compactUpTo d m ↔ ∃ i, i < m ∧ d[i]! = x
  | 0, _ => ⟨by simp [Lib.compactUpTo, SrtB], by simp [Lib.compactUpTo]⟩
  | m + 1, hm => by
    obtain ⟨h1, h2⟩ := cmpB_inv d hs m (by omega)
    rw [Lib.compactUpTo_succ]
    by_cases hk : Lib.keeps d m = true
    · rw [if_pos hk]
      refine ⟨List.pairwise_append.2 ⟨h1, by simp, fun a ha b hb => ?_⟩, fun x => ?_⟩
      · rw [List.mem_singleton] at hb
        subst hb
        obtain ⟨i, hi, rfl⟩ := (h2 a).1 ha
        have hne : m = 0 ∨ d[m]! ≠ d[m - 1]! := by simpa [Lib.keeps] using hk
        have hne : d[m]! ≠ d[m - 1]! := hne.resolve_left (by omega)
        have a1 := hs i (m - 1) (by omega) (by omega)
        have a2 := hs (m - 1) m (by omega) (by omega)
        have a3 := hs i m (by omega) (by omega)
        have b2 : ordB d[m - 1]! d[m]! < 0 := by
          by_cases h : ordB d[m - 1]! d[m]! < 0
          · exact h
          · exact absurd (ordB_total h a2).symm hne
        by_cases h : ordB d[i]! d[m - 1]! < 0
        · exact ordB_trans h b2
        · rw [ordB_total h a1]; exact b2
      · rw [List.mem_append, h2, List.mem_singleton]
        constructor
        · rintro (⟨i, hi, e⟩ | e)
          · exact ⟨i, by omega, e⟩
          · exact ⟨m, by omega, e.symm⟩
        · rintro ⟨i, hi, e⟩
          by_cases him : i = m
          · subst him; exact .inr e.symm
          · exact .inl ⟨i, by omega, e⟩
    · rw [if_neg hk, List.append_nil]
      have hne : ¬ (m = 0 ∨ d[m]! ≠ d[m - 1]!) := by simpa [Lib.keeps] using hk
      have h0 : m ≠ 0 := fun e => hne (.inl e)
      have he : d[m]! = d[m - 1]! := Classical.byContradiction (fun e => hne (.inr e))
      refine ⟨h1, fun x => ?_⟩
      rw [h2]
      constructor
      · rintro ⟨i, hi, e⟩; exact ⟨i, by omega, e⟩
      · rintro ⟨i, hi, e⟩
        by_cases him : i = m
        · subst him; exact ⟨i - 1, by omega, by rw [← he]; exact e⟩
        · exact ⟨i, by omega, e⟩
theorem sortC_B (l : List ByteArray) : SrtB (Lib.compact (l.mergeSort fun x y => !(ltOf ordB) y x)) ∧ ∀ x, x ∈ Lib.compact (l.mergeSort fun x y => !(ltOf ordB) y x) ↔ x ∈ l := by
  have hsrt : (l.mergeSort fun x y => !(ltOf ordB) y x).Pairwise (fun x y => ¬ ordB y x < 0) := by
    have := List.pairwise_mergeSort (le := fun x y => !(ltOf ordB) y x)
      (fun a b c h1 h2 => by
        simp only [Bool.not_eq_true'] at *
        exact swoB.ntrans _ _ _ h2 h1)
      (fun a b => by
        simp only [Bool.or_eq_true, Bool.not_eq_true']
        cases h : ltOf ordB b a
        · exact .inl rfl
        · refine .inr ?_
          unfold ltOf at *
          have := of_decide_eq_true h
          exact decide_eq_false (by have := ordB_swap a b; omega)) l
    exact this.imp (fun h => by simp only [Bool.not_eq_true'] at h; exact of_decide_eq_false h)
  have hmem : ∀ x, x ∈ (l.mergeSort fun x y => !(ltOf ordB) y x) ↔ x ∈ l := fun x => List.mem_mergeSort
  generalize (l.mergeSort fun x y => !(ltOf ordB) y x) = z at *
  have hs : ∀ i j, i ≤ j → j < z.toArray.size → ¬ ordB z.toArray[j]! z.toArray[i]! < 0 := by
    intro i j hij hj
    have hj' : j < z.length := by simpa using hj
    rw [getElem!_pos z.toArray i (by simp; omega), getElem!_pos z.toArray j hj]
    by_cases e : i = j
    · subst e; rw [ordB_refl]; omega
    · have := List.pairwise_iff_getElem.1 hsrt i j (by omega) hj' (by omega)
      simpa using this
  obtain ⟨h1, h2⟩ := cmpB_inv z.toArray hs z.length (by simp)
  refine ⟨h1, fun x => ?_⟩
  rw [← hmem x]
  show x ∈ Lib.compactUpTo z.toArray z.length ↔ _
  rw [h2]
  constructor
  · rintro ⟨i, hi, rfl⟩
    rw [getElem!_pos z.toArray i (by simpa using hi)]
    simp
  · intro hx
    obtain ⟨i, hi, e⟩ := List.mem_iff_getElem.1 hx
    exact ⟨i, hi, by rw [getElem!_pos z.toArray i (by simpa using hi)]; simpa using e⟩
theorem compact_lenB (l : List ByteArray) : (Lib.compact l).length ≤ l.length := by
  have key : ∀ m, (Lib.compactUpTo l.toArray m).length ≤ m := by
    intro m
    induction m with
    | zero => simp [Lib.compactUpTo]
    | succ m ih => rw [Lib.compactUpTo_succ, List.length_append]; split <;> simp <;> omega
  exact key l.length
/-- Words put in one after the other. -/
def insAll (l : List ByteArray) : List ByteArray := l.foldl (fun s x => insB x s) []
theorem insAll_snoc (l : List ByteArray) (x : ByteArray) : insAll (l ++ [x]) = insB x (insAll l) := by unfold insAll; rw [List.foldl_append]; rfl
theorem insAll_inv : ∀ (l s : List ByteArray), SrtB s → SrtB (l.foldl (fun s x => insB x s) s) ∧ ∀ z, z ∈ l.foldl (fun s x => insB x s) s ↔ z ∈ l ∨ z ∈ s
  | [], s, h => ⟨h, fun z => by simp⟩
  | x :: l, s, h => by
    obtain ⟨h1, h2⟩ := insAll_inv l (insB x s) (insB_srt h)
    refine ⟨h1, fun z => ?_⟩
    rw [List.foldl_cons, h2, mem_insB, List.mem_cons]
    constructor
    · rintro (h | h | h) <;> simp [h]
    · rintro ((h | h) | h) <;> simp [h]
theorem insAll_srt (l : List ByteArray) : SrtB (insAll l) := (insAll_inv l [] (by simp [SrtB])).1
theorem mem_insAll {l : List ByteArray} {z : ByteArray} : z ∈ insAll l ↔ z ∈ l := by have := (insAll_inv l [] (by simp [SrtB])).2 z; simpa [insAll] using this
theorem sort_insAll (l : List ByteArray) : Lib.compact (l.mergeSort fun x y => !(ltOf ordB) y x) = insAll l :=
  SrtB.unique (sortC_B l).1 (insAll_srt l) (fun z => by rw [(sortC_B l).2, mem_insAll])
/-- The prefixes of a word, shorter than n, that are allowed. -/
def preF (l : List ByteArray) (w : ByteArray) (n : Nat) : List ByteArray := ((List.range n).map (fun k => w.extract 0 k)).filter (alwA l)
theorem preF_succ (l : List ByteArray) (w : ByteArray) (n : Nat) : preF l w (n + 1) = preF l w n ++ (if alwA l (w.extract 0 n) = true then [w.extract 0 n] else []) := by
  unfold preF
  rw [List.range_succ, List.map_append, List.filter_append]
  congr 1
  by_cases h : alwA l (w.extract 0 n) = true <;> simp [h]
def candF (l : List ByteArray) (k : Nat) : List ByteArray := (⟨#[]⟩ : ByteArray) :: (l.take k).flatMap (fun w => preF l w w.size)
theorem candF_succ (l : List ByteArray) (k : Nat) (h : k < l.length) : candF l (k + 1) = candF l k ++ preF l l[k] l[k].size := by
  unfold candF
  rw [List.take_succ_eq_append_getElem h, List.flatMap_append]; simp
theorem preF_len (l : List ByteArray) (w : ByteArray) (n : Nat) : (preF l w n).length ≤ n := by
  unfold preF
  exact Nat.le_trans (List.length_filter_le _ _) (by simp)
/-- The states. -/
def stA (l : List ByteArray) : List ByteArray := insAll (candF l l.length)
end Go.Proofs.YthelgembcfdhdaaGreat
namespace Go.Proofs.YthelgembcfdhdaaGreat
open Go.RowKit Go.Sort Go.Shelf Go.Lib

set_option maxRecDepth 100000 in
set_option maxHeartbeats 1000000 in
theorem rMake_any (q n : Int) (l : List Ed) (p : Option Addr) (c : Nat) (w : World) (hin : Sg 3 w edE p l) (hl : l.length ≤ 10000) :
    Calls Tryz.prog 33 #[.int .i64 q, .int .i64 n, .slice p l.length c] w (RetGr (makeA q n l).1 (makeA q n l).2 w) := by
  have hB0 : Below w.heap.size w (w.alloc (.cells #[.int .i64 0, .int .i64 0, .slice none 0 0] 27)) := (Below.refl _ _).alloc (Nat.le_refl _) _
  have b0 : VRow (w.alloc (.cells #[.int .i64 0, .int .i64 0, .slice none 0 0] 27)) w.heap.size 27 [.int .i64 0, .int .i64 0, .slice none 0 0] := VRow.new w _ _
  go_enter Tryz.func33, Tryz.ntmps33
  go_wp2_with fail
  refine (rSorted_any l p c _ (hin.below hB0) hl).mono ?_
  rintro e w4 ⟨v4, rfl, hown4, hB4⟩
  have hz0 : w.heap.size < (w.alloc (.cells #[.int .i64 0, .int .i64 0, .slice none 0 0] 27)).heap.size := b0.lt
  have x4 := hB0.trans (hB4.mono hB0.size)
  have b4 := b0.below hB4 b0.lt
  clear hB4 hB0 b0
  generalize (w.alloc (.cells #[.int .i64 0, .int .i64 0, .slice none 0 0] 27)).heap.size = B at *
  obtain ⟨p4, c4, rfl, hs4, hc4, _⟩ := own_sg hown4
  have f0 := b4.at 0 rfl; have f1 := b4.at 1 rfl; have f2 := b4.at 2 rfl
  have hfz := fun j => b4.frozen j
  have hz4 := b4.lt
  have hw5 : Sg 3 (w4.alloc (.cells #[.int .i64 (⟨q, n, norm l⟩ : Gr).q, .int .i64 (⟨q, n, norm l⟩ : Gr).n, .slice p4 (⟨q, n, norm l⟩ : Gr).es.length c4] 27)) edE p4 (norm l) := hs4.below ((Below.refl _ _).alloc (Nat.le_refl _) _)
  have hln : (norm l).length ≤ 100000 := by
    have := norm_len l l.length (Nat.le_refl _); rw [List.take_length] at this; omega
  obtain ⟨r, hr⟩ : ∃ r, chkG ⟨q, n, norm l⟩ = r := ⟨_, rfl⟩
  have b4' : VRow (w4.alloc (.cells #[.int .i64 (⟨q, n, norm l⟩ : Gr).q, .int .i64 (⟨q, n, norm l⟩ : Gr).n, .slice p4 (⟨q, n, norm l⟩ : Gr).es.length c4] 27)) w.heap.size 27 [.int .i64 0, .int .i64 0, .slice none 0 0] := b4.alloc _
  have c4' : VRow (w4.alloc (.cells #[.int .i64 (⟨q, n, norm l⟩ : Gr).q, .int .i64 (⟨q, n, norm l⟩ : Gr).n, .slice p4 (⟨q, n, norm l⟩ : Gr).es.length c4] 27)) w4.heap.size 27 [.int .i64 (⟨q, n, norm l⟩ : Gr).q, .int .i64 (⟨q, n, norm l⟩ : Gr).n, .slice p4 (⟨q, n, norm l⟩ : Gr).es.length c4] := VRow.new w4 _ _
  have x4' := x4.alloc x4.size (.cells #[.int .i64 (⟨q, n, norm l⟩ : Gr).q, .int .i64 (⟨q, n, norm l⟩ : Gr).n, .slice p4 (⟨q, n, norm l⟩ : Gr).es.length c4] 27)
  have hL : Hid ((norm l).length ≤ c4) := hc4
  by_cases hr0 : r = 0
  · subst hr0
    have HR := hidI (makeA_ok hr)
    go_wp2_with fail
    refine (rCheck_r ⟨q, n, norm l⟩ p4 c4 _ 0 hr hw5 (by show (norm l).length ≤ _; omega)).mono ?_
    rintro e w5 ⟨rfl, hB5⟩
    have x5 := x4'.trans (hB5.mono x4'.size)
    have b5 := b4'.below hB5 b4'.lt
    have c5 := c4'.below hB5 c4'.lt
    have o5 := (hown4.alloc (.cells #[.int .i64 (⟨q, n, norm l⟩ : Gr).q, .int .i64 (⟨q, n, norm l⟩ : Gr).n, .slice p4 (⟨q, n, norm l⟩ : Gr).es.length c4] 27)).below hB5
    have g0 := c5.at 0 rfl; have g1 := c5.at 1 rfl; have g2 := c5.at 2 rfl
    have k0 := b5.at 0 rfl; have k1 := b5.at 1 rfl; have k2 := b5.at 2 rfl
    have z0 := b5.frozen 0; have z1 := b5.frozen 1; have z2 := b5.frozen 2
    clear f0 f1 f2 hfz hr
    go_wp2
    have r6 := VRow.set (i := 2) (.slice p4 (norm l).length c4) (VRow.set (i := 1) (.int .i64 n) (VRow.set (i := 0) (.int .i64 q) b5))
    have y0 := r6.at 0 rfl; have y1 := r6.at 1 rfl; have y2 := r6.at 2 rfl
    have o6 := ownsRow_setCell_below (a := ⟨w.heap.size, 2, none⟩) (ownsRow_setCell_below (a := ⟨w.heap.size, 1, none⟩) (ownsRow_setCell_below (a := ⟨w.heap.size, 0, none⟩) o5 hz0 (.int .i64 q)) hz0 (.int .i64 n)) hz0 (.slice p4 (norm l).length c4)
    have x6 : Below w.heap.size w (((w5.setCell ⟨w.heap.size, 0, none⟩ (.int .i64 q)).setCell ⟨w.heap.size, 1, none⟩ (.int .i64 n)).setCell ⟨w.heap.size, 2, none⟩ (.slice p4 (norm l).length c4)) := ((x5.setCell (Nat.le_refl _) _).setCell (Nat.le_refl _) _).setCell (Nat.le_refl _) _
    refine bodyPost_ret (v := .tuple #[.agg #[.int .i64 q, .int .i64 n, .slice p4 (norm l).length c4], .int .i64 0]) (by simp [results, Tryz.results33, go_sem, y0, y1, y2]) rfl ?_
    obtain ⟨p6, c6, hv, hs6, _, _⟩ := own_sg o6
    cases hv
    exact RetGr.of HR.out hs6 hL.out x6
  · have hrb : (r == 0) = false := by simpa using hr0
    have HR := hidI (makeA_bad (by rw [hr]; exact hr0))
    rw [hr] at HR
    go_wp2_with fail
    refine (rCheck_r ⟨q, n, norm l⟩ p4 c4 _ r hr hw5 (by show (norm l).length ≤ _; omega)).mono ?_
    rintro e w5 ⟨rfl, hB5⟩
    have x5 := x4'.trans (hB5.mono x4'.size)
    have b5 := b4'.below hB5 b4'.lt
    have o5 := (hown4.alloc (.cells #[.int .i64 (⟨q, n, norm l⟩ : Gr).q, .int .i64 (⟨q, n, norm l⟩ : Gr).n, .slice p4 (⟨q, n, norm l⟩ : Gr).es.length c4] 27)).below hB5
    have k0 := b5.at 0 rfl; have k1 := b5.at 1 rfl; have k2 := b5.at 2 rfl
    have z0 := b5.frozen 0; have z1 := b5.frozen 1; have z2 := b5.frozen 2
    clear f0 f1 f2 hfz hr
    go_wp2
    have r6 := VRow.set (i := 2) (.slice none 0 0) (VRow.set (i := 1) (.int .i64 0) (VRow.set (i := 0) (.int .i64 0) b5))
    have y0 := r6.at 0 rfl; have y1 := r6.at 1 rfl; have y2 := r6.at 2 rfl
    have o6 := ownsRow_setCell_below (a := ⟨w.heap.size, 2, none⟩) (ownsRow_setCell_below (a := ⟨w.heap.size, 1, none⟩) (ownsRow_setCell_below (a := ⟨w.heap.size, 0, none⟩) o5 hz0 (.int .i64 0)) hz0 (.int .i64 0)) hz0 (.slice none 0 0)
    have x6 : Below w.heap.size w (((w5.setCell ⟨w.heap.size, 0, none⟩ (.int .i64 0)).setCell ⟨w.heap.size, 1, none⟩ (.int .i64 0)).setCell ⟨w.heap.size, 2, none⟩ (.slice none 0 0)) := ((x5.setCell (Nat.le_refl _) _).setCell (Nat.le_refl _) _).setCell (Nat.le_refl _) _
    refine bodyPost_ret (v := .tuple #[.agg #[.int .i64 0, .int .i64 0, .slice none 0 0], .int .i64 r]) (by simp [results, Tryz.results33, go_sem, y0, y1, y2]) rfl ?_
    exact RetGr.of (G' := ⟨0, 0, []⟩) HR.out (Sg.nil _ _ _ _) (by simp) x6
end Go.Proofs.YthelgembcfdhdaaGreat
namespace Go.Proofs.YthelgembcfdhdaaGreat
open Go.RowKit

/-- Why a list is no set of states, behind the number before it. -/
def leP : Option Int → Int → Bool
  | some q, s => decide (s ≤ q)
  | none, _ => false
def chkS (n : Int) (p : Option Int) : List Int → Int
  | [] => 0
  | s :: l => if s < 0 ∨ n ≤ s then 25 else if leP p s = true then 10 else chkS n (some s) l
theorem chkS_cons (n : Int) (p : Option Int) (s : Int) (l : List Int) : chkS n p (s :: l) = if s < 0 ∨ n ≤ s then 25 else if leP p s = true then 10 else chkS n (some s) l := by rw [chkS]
/-- The number before place k. -/
def pvS (l : List Int) (k : Nat) : Option Int := if k = 0 then none else l[k - 1]?
theorem chkS_at {n : Int} {l : List Int} {k : Nat} (hk : k < l.length) : chkS n (pvS l k) (l.drop k) = if l[k] < 0 ∨ n ≤ l[k] then 25 else if leP (pvS l k) l[k] = true then 10 else chkS n (pvS l (k + 1)) (l.drop (k + 1)) := by
  rw [List.drop_eq_getElem_cons hk, show pvS l (k + 1) = some l[k] by simp [pvS, hk]]
  exact chkS_cons ..
theorem chkS_end {n : Int} {l : List Int} {k : Nat} (hk : ¬ k < l.length) : chkS n (pvS l k) (l.drop k) = 0 := by
  rw [List.drop_eq_nil_of_le (by omega)]; rfl
theorem chkS_ok {n : Int} : ∀ {l : List Int} {p : Option Int}, chkS n p l = 0 → l.Pairwise (· < ·) ∧ (∀ x ∈ l, 0 ≤ x ∧ x < n) ∧ (∀ q, p = some q → ∀ x ∈ l, q < x)
  | [], _, _ => by simp
  | s :: l, p, h => by
    rw [chkS_cons] at h
    by_cases h1 : s < 0 ∨ n ≤ s
    · rw [if_pos h1] at h; omega
    · rw [if_neg h1] at h
      by_cases h2 : leP p s = true
      · rw [if_pos h2] at h; omega
      · rw [if_neg h2] at h
        obtain ⟨a, b, c⟩ := chkS_ok h
        have c := c s rfl
        refine ⟨List.pairwise_cons.2 ⟨c, a⟩, ?_, ?_⟩
        · intro x hx
          rcases List.mem_cons.1 hx with e | hx
          · subst e; omega
          · exact b x hx
        · intro q hq x hx
          subst hq
          have : ¬ s ≤ q := by simpa [leP] using h2
          rcases List.mem_cons.1 hx with e | hx
          · subst e; omega
          · have := c x hx; omega
/-- Where a number stands in a list, or -1. -/
def idxI (n : Int) (l : List Int) : Int := if n ∈ l then ((l.idxOf n : Nat) : Int) else -1
theorem idxI_hit {n : Int} {l : List Int} {k : Nat} (hk : k < l.length) (he : l[k] = n) (hb : ∀ j (h : j < l.length), j < k → l[j] ≠ n) : idxI n l = k := by
  unfold idxI
  rw [if_pos (by rw [← he]; exact List.getElem_mem _)]
  congr 1
  induction l generalizing k with
  | nil => simp at hk
  | cons y l ih =>
    rw [List.idxOf_cons]
    cases k with
    | zero => simp at he; simp [he]
    | succ k =>
      have h0 := hb 0 (by simp) (by omega)
      simp only [List.getElem_cons_zero] at h0
      rw [show (y == n) = false by simpa using h0]
      simp only [List.getElem_cons_succ] at he
      have := ih (k := k) (by simpa using hk) he (fun j h hj => by have := hb (j + 1) (by simpa using h) (by omega); simpa using this)
      simp [this]
theorem idxI_miss {n : Int} {l : List Int} (hb : ∀ j (h : j < l.length), l[j] ≠ n) : idxI n l = -1 := by
  unfold idxI
  rw [if_neg]
  intro hm
  obtain ⟨i, hi, e⟩ := List.mem_iff_getElem.1 hm
  exact hb i hi e
theorem countP_idxOf {n : Int} : ∀ {l : List Int}, l.Pairwise (· < ·) → n ∈ l → l.countP (· < n) = l.idxOf n
  | [], _, h => by simp at h
  | y :: l, hs, h => by
    obtain ⟨h1, h2⟩ := List.pairwise_cons.1 hs
    rw [List.idxOf_cons, List.countP_cons]
    by_cases e : y = n
    · subst e
      have : l.countP (· < y) = 0 := List.countP_eq_zero.2 (fun x hx => by have := h1 x hx; simp; omega)
      simp [this]
    · have hm : n ∈ l := by rcases List.mem_cons.1 h with e' | h
                            · exact absurd e'.symm e
                            · exact h
      have hlt := h1 n hm
      have ih := countP_idxOf h2 hm
      rw [show (y == n) = false by simpa using e]
      simp [ih, hlt]
/-- An edge of the part on a set. -/
def partE (st : List Int) (x : Ed) : Option Ed := if x.f ∈ st ∧ x.t ∈ st then some ⟨((st.idxOf x.f : Nat) : Int), x.l, ((st.idxOf x.t : Nat) : Int)⟩ else none
/-- The part of a graph on a set. -/
def partA (G : Gr) (st : List Int) : Gr := ⟨G.q, st.length, G.es.filterMap (partE st)⟩
theorem partE_snoc (st : List Int) (l : List Ed) (k : Nat) (h : k < l.length) : (l.take (k + 1)).filterMap (partE st) = (l.take k).filterMap (partE st) ++ (match partE st l[k] with | some y => [y] | none => []) := by
  rw [List.take_succ_eq_append_getElem h, List.filterMap_append]
  congr 1
  cases hp : partE st l[k] <;> simp [hp]
theorem partE_len (st : List Int) (l : List Ed) : (l.filterMap (partE st)).length ≤ l.length := List.length_filterMap_le _ _
end Go.Proofs.YthelgembcfdhdaaGreat
namespace Go.Proofs.YthelgembcfdhdaaGreat
open Go.RowKit Go.Sort Go.Shelf Go.Lib

set_option maxHeartbeats 400000 in
theorem rHas_q (l : List Int) (p : Option Addr) (c : Nat) (n : Int) (w : World) (hp : Sl w (Value.int .i64) p l) (hl : l.length ≤ 9223372036854775807) :
    Calls Tryz.prog 70 #[.slice p l.length c, .int .i64 n] w fun e w' => e = .returned (.bool (decide (n ∈ l))) ∧ w' = w := by
  go_enter Tryz.func70, Tryz.ntmps70
  go_wp2
  go_loop [5] (fun i => ∃ k : Nat, k ≤ l.length ∧ i = .int .i64 k ∧ Hid (∀ j (hj : j < l.length), j < k → l[j] ≠ n)) (fun i => l.length - (intOf i).toNat)
  case atStart => exact ⟨0, by omega, rfl, fun _ _ h => by omega⟩
  case round =>
    obtain ⟨k, hk, rfl, hj⟩ := hrel
    by_cases hlt : k < l.length
    · obtain ⟨b1, o1, rfl, hb1, hc1⟩ := hp.get k hlt
      have e1 := hc1 k hlt
      clear hc1
      by_cases he : l[k] = n
      · have HI : Hid (decide (n ∈ l) = true) := decide_eq_true (he ▸ List.getElem_mem hlt)
        have hb : (l[k] == n) = true := by simpa using he
        clear he
        go_wp2
        go_ret
        exact ⟨ret_bool HI.out.symm, rfl⟩
      · have hb : (l[k] == n) = false := by simpa using he
        have HE := hidI he
        clear he
        go_wp2
        go_round
        case rel => exact ⟨k + 1, by omega, by go_num, fun j h1 h2 => by
          rcases Nat.lt_succ_iff_lt_or_eq.1 h2 with h3 | h3
          · exact hj.out j h1 h3
          · subst h3; exact HE.out⟩
        case measure => simp [intOf]; omega
    · have HM : Hid (decide (n ∈ l) = false) := decide_eq_false (fun hm => by
        obtain ⟨i, hi, e⟩ := List.mem_iff_getElem.1 hm
        exact hj.out i hi (by omega) e)
      go_wp2
      go_ret
      exact ⟨ret_bool HM.out.symm, rfl⟩

set_option maxHeartbeats 400000 in
theorem rIndex_q (l : List Int) (p : Option Addr) (c : Nat) (n : Int) (w : World) (hp : Sl w (Value.int .i64) p l) (hl : l.length ≤ 9223372036854775807) :
    Calls Tryz.prog 98 #[.slice p l.length c, .int .i64 n] w fun e w' => e = .returned (.int .i64 (idxI n l)) ∧ w' = w := by
  go_enter Tryz.func98, Tryz.ntmps98
  go_wp2
  go_loop [5] (fun i => ∃ k : Nat, k ≤ l.length ∧ i = .int .i64 k ∧ Hid (∀ j (hj : j < l.length), j < k → l[j] ≠ n)) (fun i => l.length - (intOf i).toNat)
  case atStart => exact ⟨0, by omega, rfl, fun _ _ h => by omega⟩
  case round =>
    obtain ⟨k, hk, rfl, hj⟩ := hrel
    by_cases hlt : k < l.length
    · obtain ⟨b1, o1, rfl, hb1, hc1⟩ := hp.get k hlt
      have e1 := hc1 k hlt
      clear hc1
      by_cases he : l[k] = n
      · have HI : Hid (idxI n l = k) := idxI_hit hlt he hj.out
        have hb : (l[k] == n) = true := by simpa using he
        clear he
        go_wp2
        go_ret
        exact ⟨ret_int HI.out.symm, rfl⟩
      · have hb : (l[k] == n) = false := by simpa using he
        have HE := hidI he
        clear he
        go_wp2
        go_round
        case rel => exact ⟨k + 1, by omega, by go_num, fun j h1 h2 => by
          rcases Nat.lt_succ_iff_lt_or_eq.1 h2 with h3 | h3
          · exact hj.out j h1 h3
          · subst h3; exact HE.out⟩
        case measure => simp [intOf]; omega
    · have HM : Hid (idxI n l = -1) := idxI_miss (fun i hi => hj.out i hi (by omega))
      go_wp2
      go_ret
      exact ⟨ret_int HM.out.symm, rfl⟩

theorem rIndex_r (l : List Int) (p : Option Addr) (c : Nat) (n r : Int) (w : World) (hp : Sl w (Value.int .i64) p l) (hl : l.length ≤ 9223372036854775807) (hr : idxI n l = r) :
    Calls Tryz.prog 98 #[.slice p l.length c, .int .i64 n] w fun e w' => e = .returned (.int .i64 r) ∧ w' = w := by subst hr; exact rIndex_q l p c n w hp hl
theorem rHas_r (l : List Int) (p : Option Addr) (c : Nat) (n : Int) (r : Bool) (w : World) (hp : Sl w (Value.int .i64) p l) (hl : l.length ≤ 9223372036854775807) (hr : decide (n ∈ l) = r) :
    Calls Tryz.prog 70 #[.slice p l.length c, .int .i64 n] w fun e w' => e = .returned (.bool r) ∧ w' = w := by subst hr; exact rHas_q l p c n w hp hl

set_option maxRecDepth 100000 in
set_option maxHeartbeats 1000000 in
theorem gCheckSet_any (G : Gr) (p : Option Addr) (c : Nat) (l : List Int) (q : Option Addr) (d : Nat) (w : World) (hin : Sl w (Value.int .i64) q l) (hl : l.length ≤ 9223372036854775807) :
    Calls Tryz.prog 119 #[(.agg #[.int .i64 G.q, .int .i64 G.n, .slice p G.es.length c]), .slice q l.length d] w fun e w' => e = .returned (.int .i64 (chkS G.n none l)) ∧ Below w.heap.size w w' := by
  have hB0 : Below w.heap.size w (w.alloc (.cells #[.int .i64 G.q, .int .i64 G.n, .slice p G.es.length c] 27)) := (Below.refl _ _).alloc (Nat.le_refl _) _
  have b0 : VRow (w.alloc (.cells #[.int .i64 G.q, .int .i64 G.n, .slice p G.es.length c] 27)) w.heap.size 27 [.int .i64 G.q, .int .i64 G.n, .slice p G.es.length c] := VRow.new w _ _
  have hin0 := hin.below hB0
  have f1 := b0.at 1 rfl
  clear hin
  go_enter Tryz.func119, Tryz.ntmps119
  go_wp2
  go_loop [9] (fun i => ∃ k : Nat, k ≤ l.length ∧ i = .int .i64 k ∧ Hid (chkS G.n (pvS l k) (l.drop k) = chkS G.n none l)) (fun i => l.length - (intOf i).toNat)
  case atStart => exact ⟨0, by omega, rfl, rfl⟩
  case round =>
    obtain ⟨k, hk, rfl, hj⟩ := hrel
    by_cases hlt : k < l.length
    · obtain ⟨b1, o1, rfl, hb1, hc1⟩ := hin0.get k hlt
      have e1 := hc1 k hlt
      have HA := hidI (chkS_at (n := G.n) hlt)
      by_cases h0 : l[k] < 0
      · have HI : Hid (chkS G.n none l = 25) := by rw [Hid, ← hj.out, HA.out, if_pos (.inl h0)]
        clear hc1
        go_wp2
        go_ret
        exact ⟨ret_int HI.out.symm, hB0⟩
      · by_cases h1 : G.n ≤ l[k]
        · have HI : Hid (chkS G.n none l = 25) := by rw [Hid, ← hj.out, HA.out, if_pos (.inr h1)]
          clear hc1
          go_wp2
          go_ret
          exact ⟨ret_int HI.out.symm, hB0⟩
        · have HA2 := hidI (HA.out.trans (if_neg (by omega)))
          by_cases hk0 : k = 0
          · subst hk0
            have HN : Hid (chkS G.n (pvS l (0 + 1)) (l.drop (0 + 1)) = chkS G.n none l) := by rw [Hid, ← hj.out, HA2.out]; simp [pvS, leP]
            clear hc1
            rw [Nat.add_zero] at e1
            go_wp2
            go_round
            case rel => exact ⟨0 + 1, by omega, by go_num, HN⟩
            case measure => simp [intOf]; omega
          · obtain ⟨m, rfl⟩ : ∃ m, k = m + 1 := ⟨k - 1, by omega⟩
            have e2 := hc1 m (by omega)
            have q1 : IntKind.i64.wrap (m : Int) = (m : Int) := IntWalk.i64_in _ (by omega)
            have hpv : pvS l (m + 1) = some l[m] := by simp [pvS, show m < l.length by omega]
            by_cases h2 : l[m + 1] ≤ l[m]
            · have HI : Hid (chkS G.n none l = 10) := by rw [Hid, ← hj.out, HA2.out, hpv]; simp [leP, h2]
              clear hc1 hpv
              go_wp2
              go_ret
              exact ⟨ret_int HI.out.symm, hB0⟩
            · have HN : Hid (chkS G.n (pvS l (m + 1 + 1)) (l.drop (m + 1 + 1)) = chkS G.n none l) := by rw [Hid, ← hj.out, HA2.out, hpv]; simp [leP, h2]
              clear hc1 hpv
              go_wp2
              go_round
              case rel => exact ⟨m + 1 + 1, by omega, by go_num, HN⟩
              case measure => simp [intOf]; omega
    · have HI : Hid (chkS G.n none l = 0) := by rw [Hid, ← hj.out, chkS_end hlt]
      go_wp2
      go_ret
      exact ⟨ret_int HI.out.symm, hB0⟩
end Go.Proofs.YthelgembcfdhdaaGreat
namespace Go.Proofs.YthelgembcfdhdaaGreat
open Go.RowKit Go.Sort Go.Shelf Go.Lib

/-- One graph, its edges in memory that the call made. -/
def RetG (G : Gr) (w : World) (e : Ending) (w' : World) : Prop := ∃ p m c, e = .returned (.agg #[.int .i64 G.q, .int .i64 G.n, .slice p m c]) ∧ w'.ownsRow w.heap.size 47 3 (.slice p m c) G.es.length (cat G.es) ∧ RowKit.Below w.heap.size w w'
theorem cell_new3 (W : World) (y : Ed) (t n : Nat) (hn : W.heap.size = n) : ∀ (j : Nat) (u : Value), (cat [y])[j]? = some u → (W.alloc (.cells (edE y).toArray t)).cell? ((⟨n, 0, none⟩ : Addr).add j) = some u := by
  subst hn
  intro j u hu
  rw [show (⟨W.heap.size, 0, none⟩ : Addr).add j = ⟨W.heap.size, j, none⟩ by unfold Addr.add; split <;> simp_all, (VRow.new W t (edE y)).cell]
  simpa [cat] using hu
theorem own_shape {w : World} {B e n : Nat} {v : Value} {l : List Ed} (h : w.ownsRow B e 3 v n (cat l)) : ∃ p m c, v = .slice p m c := by
  obtain ⟨p, c, h, _⟩ := own_sg h; exact ⟨p, _, c, h⟩
theorem part_stop {st : List Int} {x : Ed} (h : ¬ (x.f ∈ st ∧ x.t ∈ st)) : partE st x = none := if_neg h
theorem part_go {st : List Int} {x : Ed} (h : x.f ∈ st ∧ x.t ∈ st) : partE st x = some ⟨((st.idxOf x.f : Nat) : Int), x.l, ((st.idxOf x.t : Nat) : Int)⟩ := if_pos h
theorem idxI_neg {n : Int} {l : List Int} (h : n ∉ l) : idxI n l = -1 := if_neg h
theorem idxI_pos {n : Int} {l : List Int} (h : n ∈ l) : idxI n l = ((l.idxOf n : Nat) : Int) := if_pos h

set_option maxRecDepth 100000 in
set_option maxHeartbeats 2000000 in
theorem rPart_any (G : Gr) (p : Option Addr) (c : Nat) (st : List Int) (q : Option Addr) (d : Nat) (w : World) (hin : Sg 3 w edE p G.es) (hst : Sl w (Value.int .i64) q st) (hl : G.es.length ≤ 10000) (hs : st.length ≤ 100000) :
    Calls Tryz.prog 71 #[(.agg #[.int .i64 G.q, .int .i64 G.n, .slice p G.es.length c]), .slice q st.length d] w (RetG (partA G st) w) := by
  have HIN := hidI hin; have HST := hidI hst
  obtain ⟨i0, hi0, hz0, hz1, hz2⟩ := info_parts infoE
  clear hin hst
  obtain ⟨w0, hw0⟩ : ∃ w0, w0 = ((w.alloc (.cells #[.int .i64 G.q, .int .i64 G.n, .slice p G.es.length c] 27)).alloc (.cells #[.int .i64 0, .int .i64 0, .slice none 0 0] 27)).alloc (.cells #[.int .i64 G.q, .int .i64 st.length, .slice none 0 0] 27) := ⟨_, rfl⟩
  have b0 : VRow w0 w.heap.size 27 [.int .i64 G.q, .int .i64 G.n, .slice p G.es.length c] := by subst hw0; exact ((VRow.new w _ _).alloc _).alloc _
  have b1 : VRow w0 (w.heap.size + 1) 27 [.int .i64 0, .int .i64 0, .slice none 0 0] := by subst hw0; exact (VRow.new1 w _ _ _).alloc _
  have b2 : VRow w0 (w.heap.size + 1 + 1) 27 [.int .i64 G.q, .int .i64 st.length, .slice none 0 0] := by subst hw0; exact VRow.new2 w _ _ _ _
  have hB0 : Below w.heap.size w w0 := by subst hw0; exact (((Below.refl _ _).alloc (Nat.le_refl _) _).alloc (by simp) _).alloc (by simp; omega) _
  have hsz0 : w0.heap.size = w.heap.size + 1 + 1 + 1 := by subst hw0; simp
  go_enter Tryz.func71, Tryz.ntmps71
  go_wp2
  rw [← hw0]
  clear hw0
  go_loopw [6] (fun iv wr => ∃ (k : Nat) (v : Value), k ≤ G.es.length ∧ iv = .int .i64 k ∧ VRow wr w.heap.size 27 [.int .i64 G.q, .int .i64 G.n, .slice p G.es.length c] ∧ VRow wr (w.heap.size + 1) 27 [.int .i64 0, .int .i64 0, .slice none 0 0] ∧ VRow wr (w.heap.size + 1 + 1) 27 [.int .i64 G.q, .int .i64 st.length, v] ∧
      wr.ownsRow (w.heap.size + 1 + 1 + 1) 47 3 v ((G.es.take k).filterMap (partE st)).length (cat ((G.es.take k).filterMap (partE st))) ∧ Below w.heap.size w wr ∧ w.heap.size + 1 + 1 + 1 ≤ wr.heap.size) (fun iv _ => G.es.length - (intOf iv).toNat)
  case atStart => exact ⟨0, _, by omega, rfl, b0, b1, b2, World.ownsRow_nil _ _ _ _, hB0, by omega⟩
  case round =>
    obtain ⟨k, v, hk, rfl, c0, c1, c2, hown, hB, hge⟩ := hrel
    have f2 := c0.at 2 rfl
    by_cases hlt : k < G.es.length
    · obtain ⟨b3, o3, rfl, hb3, e0, e1, e2⟩ := (HIN.out.below hB).get3 k hlt rfl
      have hSN := hidI (partE_snoc st G.es k hlt)
      have hML : ((G.es.take k).filterMap (partE st)).length ≤ k := Nat.le_trans (List.length_filterMap_le _ _) (by rw [List.length_take]; omega)
      generalize (G.es.take k).filterMap (partE st) = M at *
      generalize hx : G.es[k] = x at *
      have HS1 : Sl (wr.alloc (.cells #[.int .i64 x.f, .int .i64 x.l, .int .i64 x.t] 47)) (Value.int .i64) q st := HST.out.below (hB.alloc hB.size _)
      have y0 : VRow (wr.alloc (.cells #[.int .i64 x.f, .int .i64 x.l, .int .i64 x.t] 47)) wr.heap.size 47 (edE x) := VRow.new wr _ _
      have hown1 := hown.alloc (.cells #[.int .i64 x.f, .int .i64 x.l, .int .i64 x.t] 47)
      have d0 := c0.alloc (.cells #[.int .i64 x.f, .int .i64 x.l, .int .i64 x.t] 47)
      have d1 := c1.alloc (.cells #[.int .i64 x.f, .int .i64 x.l, .int .i64 x.t] 47)
      have d2 := c2.alloc (.cells #[.int .i64 x.f, .int .i64 x.l, .int .i64 x.t] 47)
      have hB1 := hB.alloc hB.size (.cells #[.int .i64 x.f, .int .i64 x.l, .int .i64 x.t] 47)
      have hsz1 : (wr.alloc (.cells #[.int .i64 x.f, .int .i64 x.l, .int .i64 x.t] 47)).heap.size = wr.heap.size + 1 := World.size_alloc _ _
      go_wp2_with fail
      generalize (wr.alloc (.cells #[.int .i64 x.f, .int .i64 x.l, .int .i64 x.t] 47)) = W1 at *
      have g0 := y0.at 0 rfl; have g1 := y0.at 1 rfl; have g2 := y0.at 2 rfl
      have k0 := d2.at 0 rfl; have k1 := d2.at 1 rfl; have k2 := d2.at 2 rfl; have kf := d2.frozen 2
      clear e0 e1 e2 f2
      by_cases hm : x.f ∈ st ∧ x.t ∈ st
      · have HPE := hidI (part_go hm)
        have HF := hidI (idxI_pos hm.1); have HT := hidI (idxI_pos hm.2)
        generalize st.idxOf x.f = a at *
        generalize st.idxOf x.t = b at *
        clear hm
        have HC1 := fun (n : Nat) => Calls.quiet_of_same (rIndex_r st q d x.f a (W1.drewN n) HS1 (by omega) HF.out)
        have HC2 := fun (n : Nat) => Calls.quiet_of_same (rIndex_r st q d x.t b (W1.drewN n) HS1 (by omega) HT.out)
        (refine wp_region_quiet_lit (by kernel_rfl) (by kernel_rfl) ?_; (repeat (first | go_big_quiet_step (first | (go_at_call 98; with_reducible exact HC1 _) | (go_at_call 98; with_reducible exact HC2 _)) | quiet_step (first | (go_at_call 98; with_reducible exact HC1 _) | (go_at_call 98; with_reducible exact HC2 _)))); refine wpQuiet_nil ?_; intro _ hwq; obtain ⟨nq, hwq2⟩ := hwq; subst hwq2)
        clear g0 g2 HC1 HC2
        have HSN : Hid (List.filterMap (partE st) (G.es.take (k + 1)) = M ++ [⟨(a : Int), x.l, (b : Int)⟩]) := by rw [Hid, hSN.out, HPE.out]
        clear hSN HPE HF HT
        have hq2 : VRow (W1.drewN nq) (w.heap.size + 1 + 1) 27 [.int .i64 G.q, .int .i64 st.length, v] := d2
        have hownq : (W1.drewN nq).ownsRow (w.heap.size + 1 + 1 + 1) 47 3 v M.length (cat M) := hown1
        have hq0 : VRow (W1.drewN nq) w.heap.size 27 [.int .i64 G.q, .int .i64 G.n, .slice (some ⟨b3, o3, none⟩) G.es.length c] := d0
        have hq1 : VRow (W1.drewN nq) (w.heap.size + 1) 27 [.int .i64 0, .int .i64 0, .slice none 0 0] := d1
        have hBq : Below w.heap.size w (W1.drewN nq) := below_dN hB1 nq
        have hszq : (W1.drewN nq).heap.size = wr.heap.size + 1 := hsz1
        have g1' : (W1.drewN nq).cell? ⟨wr.heap.size, 1, none⟩ = some (.int .i64 x.l) := g1
        have k2' : (W1.drewN nq).cell? ⟨w.heap.size + 1 + 1, 2, none⟩ = some v := k2
        have a0 : (0 : Int) ≤ (a : Int) := by omega
        have a1 : (0 : Int) ≤ (b : Int) := by omega
        clear d0 d1 d2 hown1 hB1 hsz1 g1 k0 k1 k2 kf HS1 y0
        generalize W1.drewN nq = W2 at *
        have hnew := cell_new3 W2 ⟨(a : Int), x.l, (b : Int)⟩ 47 (wr.heap.size + 1) hszq
        have hownA := hownq.alloc (.cells (edE ⟨(a : Int), x.l, (b : Int)⟩).toArray 47)
        have hBA := hBq.alloc hBq.size (.cells (edE ⟨(a : Int), x.l, (b : Int)⟩).toArray 47)
        have p0 := hq0.alloc (.cells (edE ⟨(a : Int), x.l, (b : Int)⟩).toArray 47)
        have p1 := hq1.alloc (.cells (edE ⟨(a : Int), x.l, (b : Int)⟩).toArray 47)
        have p2 := hq2.alloc (.cells (edE ⟨(a : Int), x.l, (b : Int)⟩).toArray 47)
        have hne : ∀ j, v.ownBlock = some j → w.heap.size + 1 + 1 + 1 ≤ j := fun j e => (hownq.lt j e).1
        go_wp2_with (at_builtin; refine wpList_append_own _ rfl _ _ 25 rfl (w.heap.size + 1 + 1 + 1) 47 i0 _ 3 24 Tryz.underlying25 hi0 hz0 hz1 hz2 rfl (by decide) _ _ _ rfl hownA ⟨wr.heap.size + 1, 0, none⟩ 1 1 (cat [⟨(a : Int), x.l, (b : Int)⟩]) rfl rfl hnew (cat_one _) (by simp [maxLen]; omega) (by omega) (by rw [World.size_alloc, hszq]; omega) ?_; intro v' w1 hown' hgrow _; rw [← cat_app] at hown'; obtain ⟨pv, mv, cv, rfl⟩ := own_shape hown'; have r2 := VRow.grown p2 hgrow (fun e => by have := hne _ e.symm; omega); have z2 := r2.frozen 2; have s2 := r2.at 2 rfl)
        have hr0 := VRow.other (i := 2) (.slice pv mv cv) (p0.grown hgrow (fun e => by have := hne _ e.symm; omega)) (C := w.heap.size + 1 + 1) (by omega)
        have hr1 := VRow.other (i := 2) (.slice pv mv cv) (p1.grown hgrow (fun e => by have := hne _ e.symm; omega)) (C := w.heap.size + 1 + 1) (by omega)
        have hBf : RowKit.Below w.heap.size w (w1.setCell (⟨w.heap.size + 1 + 1, 2, none⟩ : Addr) (.slice pv mv cv)) := (hBA.grown hgrow (Nat.le_trans hBq.size (by simp)) (fun j e => by have := hne _ e; omega)).setCell (show w.heap.size ≤ w.heap.size + 1 + 1 by omega) _
        go_roundw
        case rel =>
          refine ⟨k + 1, _, by omega, by go_num, hr0, hr1, VRow.set (i := 2) _ r2, ?_, hBf, ?_⟩
          · rw [HSN.out]
            exact ownsRow_setCell_below (a := (⟨w.heap.size + 1 + 1, 2, none⟩ : Addr)) (own_conv hown' rfl (Nat.le_refl _)) (show w.heap.size + 1 + 1 < w.heap.size + 1 + 1 + 1 by omega) _
          · rw [World.size_setCell]; have := hgrow.size; rw [World.size_alloc] at this; omega
        case measure => simp [intOf]; omega
      · obtain ⟨r1, hr1, r2, hr2, hor⟩ : ∃ r1, idxI x.f st = r1 ∧ ∃ r2, idxI x.t st = r2 ∧ (decide (0 ≤ r1) = false ∨ (0 ≤ r1 ∧ decide (0 ≤ r2) = false)) := by
          refine ⟨_, rfl, _, rfl, ?_⟩
          by_cases h1 : x.f ∈ st
          · right
            rw [idxI_pos h1, idxI_neg (fun h2 => hm ⟨h1, h2⟩)]
            exact ⟨by omega, by decide⟩
          · left; rw [idxI_neg h1]; decide
        have HSN : Hid (List.filterMap (partE st) (G.es.take (k + 1)) = M) := by rw [Hid, hSN.out, part_stop hm]; simp
        clear hSN hm
        have HC1 := fun (n : Nat) => Calls.quiet_of_same (rIndex_r st q d x.f r1 (W1.drewN n) HS1 (by omega) hr1)
        have HC2 := fun (n : Nat) => Calls.quiet_of_same (rIndex_r st q d x.t r2 (W1.drewN n) HS1 (by omega) hr2)
        clear hr1 hr2
        rcases hor with h1 | ⟨h1, h2⟩
        all_goals
          (refine wp_region_quiet_lit (by kernel_rfl) (by kernel_rfl) ?_; (repeat (first | go_big_quiet_step (first | (go_at_call 98; with_reducible exact HC1 _) | (go_at_call 98; with_reducible exact HC2 _)) | quiet_step (first | (go_at_call 98; with_reducible exact HC1 _) | (go_at_call 98; with_reducible exact HC2 _)))); refine wpQuiet_nil ?_; intro _ hwq; obtain ⟨nq, hwq2⟩ := hwq; subst hwq2)
          clear g0 g1 g2 HC1 HC2
          have hq2 : VRow (W1.drewN nq) (w.heap.size + 1 + 1) 27 [.int .i64 G.q, .int .i64 st.length, v] := d2
          have hownq : (W1.drewN nq).ownsRow (w.heap.size + 1 + 1 + 1) 47 3 v M.length (cat M) := hown1
          have hq0 : VRow (W1.drewN nq) w.heap.size 27 [.int .i64 G.q, .int .i64 G.n, .slice (some ⟨b3, o3, none⟩) G.es.length c] := d0
          have hq1 : VRow (W1.drewN nq) (w.heap.size + 1) 27 [.int .i64 0, .int .i64 0, .slice none 0 0] := d1
          have hBq : Below w.heap.size w (W1.drewN nq) := below_dN hB1 nq
          have hszq : (W1.drewN nq).heap.size = wr.heap.size + 1 := hsz1
          clear d0 d1 d2 hown1 hB1 hsz1 k0 k1 k2 kf HS1 y0
          go_wp2_with fail
          go_roundw
          case rel =>
            refine ⟨k + 1, v, by omega, by go_num, hq0, hq1, hq2, ?_, hBq, by omega⟩
            rw [HSN.out]; exact hownq
          case measure => simp [intOf]; omega
    · obtain rfl : k = G.es.length := by omega
      rw [List.take_length] at hown
      have k0 := c2.at 0 rfl; have k1 := c2.at 1 rfl; have k2 := c2.at 2 rfl
      have j0 := c1.at 0 rfl; have j1 := c1.at 1 rfl; have j2 := c1.at 2 rfl
      have z0 := c1.frozen 0; have z1 := c1.frozen 1; have z2 := c1.frozen 2
      obtain ⟨pv, mv, cv, rfl⟩ := own_shape hown
      go_wp2
      have r6 := VRow.set (i := 2) (.slice pv mv cv) (VRow.set (i := 1) (.int .i64 st.length) (VRow.set (i := 0) (.int .i64 G.q) c1))
      have y0 := r6.at 0 rfl; have y1 := r6.at 1 rfl; have y2 := r6.at 2 rfl
      have hz0 : w.heap.size + 1 < w.heap.size + 1 + 1 + 1 := by omega
      have o6 := ownsRow_setCell_below (a := (⟨w.heap.size + 1, 2, none⟩ : Addr)) (ownsRow_setCell_below (a := (⟨w.heap.size + 1, 1, none⟩ : Addr)) (ownsRow_setCell_below (a := (⟨w.heap.size + 1, 0, none⟩ : Addr)) hown hz0 (.int .i64 G.q)) hz0 (.int .i64 st.length)) hz0 (.slice pv mv cv)
      have x6 : RowKit.Below w.heap.size w (((wr.setCell (⟨w.heap.size + 1, 0, none⟩ : Addr) (.int .i64 G.q)).setCell (⟨w.heap.size + 1, 1, none⟩ : Addr) (.int .i64 st.length)).setCell (⟨w.heap.size + 1, 2, none⟩ : Addr) (.slice pv mv cv)) :=
        ((hB.setCell (show w.heap.size ≤ w.heap.size + 1 by omega) _).setCell (show w.heap.size ≤ w.heap.size + 1 by omega) _).setCell (show w.heap.size ≤ w.heap.size + 1 by omega) _
      refine bodyPost_ret (v := .agg #[.int .i64 G.q, .int .i64 st.length, .slice pv mv cv]) (by simp [results, Tryz.results71, go_sem, y0, y1, y2]) rfl ?_
      exact ⟨_, _, _, rfl, own_conv o6 rfl (by omega), x6⟩
end Go.Proofs.YthelgembcfdhdaaGreat
namespace Go.Proofs.YthelgembcfdhdaaGreat
open Go.RowKit Go.Sort Go.Shelf Go.Lib

theorem binI_any (l : List Int) (p : Option Addr) (c : Nat) (x : Int) (w : World) (hp : Sl w (Value.int .i64) p l) (hs : l.Pairwise (· < ·)) (hl : l.length ≤ 100000) :
    Calls Tryz.prog 61 #[.slice p l.length c, .int .i64 x] w fun e w' => (∃ i : Int, e = .returned (.tuple #[.int .i64 i, .bool (decide (x ∈ l))]) ∧ (x ∈ l → i = ((l.idxOf x : Nat) : Int))) ∧ Dr w w' := by
  rcases Nat.eq_zero_or_pos l.length with h0 | h0
  · have : l = [] := List.length_eq_zero_iff.1 h0
    subst this
    refine (Tryz.slices_BinarySearch_int_empty p c x w).mono ?_
    rintro e w' ⟨rfl, rfl⟩
    exact ⟨⟨0, by simp, by simp⟩, Dr.refl _⟩
  · obtain ⟨b, off, rfl, hb, hc⟩ := hp.get 0 h0
    refine (Tryz.slices_BinarySearch_int b off l.length c l x w (Nat.le_refl _) (by omega) (fun j hj => by rw [hc j hj, List.getD_eq_getElem?_getD, List.getElem?_eq_getElem hj]; rfl) (by rw [List.take_length]; exact hs.imp (fun h => by omega))).mono ?_
    rintro e w' ⟨rfl, hD⟩
    rw [List.take_length]
    refine ⟨⟨((l.countP (· < x) : Nat) : Int), ?_, fun hm => congrArg Int.ofNat (countP_idxOf hs hm)⟩, hD⟩
    rw [show l.contains x = decide (x ∈ l) by rw [Bool.eq_iff_iff]; simp]

set_option maxRecDepth 100000 in
set_option maxHeartbeats 2000000 in
theorem gkeep_any (G : Gr) (p : Option Addr) (c : Nat) (st : List Int) (q : Option Addr) (d : Nat) (w : World) (hin : Sg 3 w edE p G.es) (hst : Sl w (Value.int .i64) q st) (hl : G.es.length ≤ 10000) (hs : st.length ≤ 100000) (hso : st.Pairwise (· < ·)) :
    Calls Tryz.prog 64 #[(.agg #[.int .i64 G.q, .int .i64 G.n, .slice p G.es.length c]), .slice q st.length d] w (RetG (partA G st) w) := by
  have HIN := hidI hin; have HST := hidI hst; have HSO := hidI hso
  obtain ⟨i0, hi0, hz0, hz1, hz2⟩ := info_parts infoE
  clear hin hst hso
  obtain ⟨w0, hw0⟩ : ∃ w0, w0 = ((w.alloc (.cells #[.int .i64 G.q, .int .i64 G.n, .slice p G.es.length c] 27)).alloc (.cells #[.int .i64 0, .int .i64 0, .slice none 0 0] 27)).alloc (.cells #[.int .i64 G.q, .int .i64 st.length, .slice none 0 0] 27) := ⟨_, rfl⟩
  have b0 : VRow w0 w.heap.size 27 [.int .i64 G.q, .int .i64 G.n, .slice p G.es.length c] := by subst hw0; exact ((VRow.new w _ _).alloc _).alloc _
  have b1 : VRow w0 (w.heap.size + 1) 27 [.int .i64 0, .int .i64 0, .slice none 0 0] := by subst hw0; exact (VRow.new1 w _ _ _).alloc _
  have b2 : VRow w0 (w.heap.size + 1 + 1) 27 [.int .i64 G.q, .int .i64 st.length, .slice none 0 0] := by subst hw0; exact VRow.new2 w _ _ _ _
  have hB0 : Below w.heap.size w w0 := by subst hw0; exact (((Below.refl _ _).alloc (Nat.le_refl _) _).alloc (by simp) _).alloc (by simp; omega) _
  have hsz0 : w0.heap.size = w.heap.size + 1 + 1 + 1 := by subst hw0; simp
  go_enter Tryz.func64, Tryz.ntmps64
  go_wp2
  rw [← hw0]
  clear hw0
  go_loopw [20] (fun iv wr => ∃ (k : Nat) (v : Value), k ≤ G.es.length ∧ iv = .int .i64 k ∧ VRow wr w.heap.size 27 [.int .i64 G.q, .int .i64 G.n, .slice p G.es.length c] ∧ VRow wr (w.heap.size + 1) 27 [.int .i64 0, .int .i64 0, .slice none 0 0] ∧ VRow wr (w.heap.size + 1 + 1) 27 [.int .i64 G.q, .int .i64 st.length, v] ∧
      wr.ownsRow (w.heap.size + 1 + 1 + 1) 47 3 v ((G.es.take k).filterMap (partE st)).length (cat ((G.es.take k).filterMap (partE st))) ∧ Below w.heap.size w wr ∧ w.heap.size + 1 + 1 + 1 ≤ wr.heap.size) (fun iv _ => G.es.length - (intOf iv).toNat)
  case atStart => exact ⟨0, _, by omega, rfl, b0, b1, b2, World.ownsRow_nil _ _ _ _, hB0, by omega⟩
  case round =>
    obtain ⟨k, v, hk, rfl, c0, c1, c2, hown, hB, hge⟩ := hrel
    have f2 := c0.at 2 rfl
    by_cases hlt : k < G.es.length
    · obtain ⟨b3, o3, rfl, hb3, e0, e1, e2⟩ := (HIN.out.below hB).get3 k hlt rfl
      have hSN := hidI (partE_snoc st G.es k hlt)
      have hML : ((G.es.take k).filterMap (partE st)).length ≤ k := Nat.le_trans (List.length_filterMap_le _ _) (by rw [List.length_take]; omega)
      generalize (G.es.take k).filterMap (partE st) = M at *
      generalize hx : G.es[k] = x at *
      have HS1 : Sl (wr.alloc (.cells #[.int .i64 x.f, .int .i64 x.l, .int .i64 x.t] 47)) (Value.int .i64) q st := HST.out.below (hB.alloc hB.size _)
      have y0 : VRow (wr.alloc (.cells #[.int .i64 x.f, .int .i64 x.l, .int .i64 x.t] 47)) wr.heap.size 47 (edE x) := VRow.new wr _ _
      have hown1 := hown.alloc (.cells #[.int .i64 x.f, .int .i64 x.l, .int .i64 x.t] 47)
      have d0 := c0.alloc (.cells #[.int .i64 x.f, .int .i64 x.l, .int .i64 x.t] 47)
      have d1 := c1.alloc (.cells #[.int .i64 x.f, .int .i64 x.l, .int .i64 x.t] 47)
      have d2 := c2.alloc (.cells #[.int .i64 x.f, .int .i64 x.l, .int .i64 x.t] 47)
      have hB1 := hB.alloc hB.size (.cells #[.int .i64 x.f, .int .i64 x.l, .int .i64 x.t] 47)
      have hsz1 : (wr.alloc (.cells #[.int .i64 x.f, .int .i64 x.l, .int .i64 x.t] 47)).heap.size = wr.heap.size + 1 := World.size_alloc _ _
      go_wp2_with fail
      generalize (wr.alloc (.cells #[.int .i64 x.f, .int .i64 x.l, .int .i64 x.t] 47)) = W1 at *
      have g0 := y0.at 0 rfl; have g1 := y0.at 1 rfl; have g2 := y0.at 2 rfl
      have k0 := d2.at 0 rfl; have k1 := d2.at 1 rfl; have k2 := d2.at 2 rfl; have kf := d2.frozen 2
      clear e0 e1 e2 f2
      refine (binI_any st q d x.f W1 HS1 HSO.out hs).mono ?_
      rintro e wa ⟨⟨i, rfl, hi⟩, hDa⟩
      have HS2 := HS1.dr hDa
      have y1 := y0.dr hDa
      have l2 := y1.at 2 rfl
      have g2 := y1.at 2 rfl
      clear g0 g1 k0 k1 k2 kf
      go_wp2_with fail
      refine (binI_any st q d x.t wa HS2 HSO.out hs).mono ?_
      rintro e W2 ⟨⟨j, rfl, hj⟩, hDb⟩
      have hD := hDa.trans hDb
      have y2 := y0.dr hD
      have g1 := y2.at 1 rfl
      have hownq := hown1.dr hD
      have hq0 := d0.dr hD
      have hq1 := d1.dr hD
      have hq2 := d2.dr hD
      have hBq := hB1.trans (hD.below _)
      have hszq : W2.heap.size = wr.heap.size + 1 := by rw [hD.size]; exact hsz1
      have kk2 := hq2.at 2 rfl
      clear d0 d1 d2 hown1 hB1 hsz1 HS1 HS2 y0 y1 y2 hDa hDb hD l2 g2
      by_cases hm : x.f ∈ st ∧ x.t ∈ st
      · have HSN : Hid (List.filterMap (partE st) (G.es.take (k + 1)) = M ++ [⟨i, x.l, j⟩]) := by rw [Hid, hSN.out, part_go hm, hi hm.1, hj hm.2]
        have m1 : decide (x.f ∈ st) = true := decide_eq_true hm.1
        have m2 : decide (x.t ∈ st) = true := decide_eq_true hm.2
        rw [m1, m2]
        clear hSN hi hj hm m1 m2
        have hnew := cell_new3 W2 ⟨i, x.l, j⟩ 47 (wr.heap.size + 1) hszq
        have hownA := hownq.alloc (.cells (edE ⟨i, x.l, j⟩).toArray 47)
        have hBA := hBq.alloc hBq.size (.cells (edE ⟨i, x.l, j⟩).toArray 47)
        have p0 := hq0.alloc (.cells (edE ⟨i, x.l, j⟩).toArray 47)
        have p1 := hq1.alloc (.cells (edE ⟨i, x.l, j⟩).toArray 47)
        have p2 := hq2.alloc (.cells (edE ⟨i, x.l, j⟩).toArray 47)
        have hne : ∀ j, v.ownBlock = some j → w.heap.size + 1 + 1 + 1 ≤ j := fun j e => (hownq.lt j e).1
        go_wp2_with (at_builtin; refine wpList_append_own _ rfl _ _ 25 rfl (w.heap.size + 1 + 1 + 1) 47 i0 _ 3 24 Tryz.underlying25 hi0 hz0 hz1 hz2 rfl (by decide) _ _ _ rfl hownA ⟨wr.heap.size + 1, 0, none⟩ 1 1 (cat [⟨i, x.l, j⟩]) rfl rfl hnew (cat_one _) (by simp [maxLen]; omega) (by omega) (by rw [World.size_alloc, hszq]; omega) ?_; intro v' w1 hown' hgrow _; rw [← cat_app] at hown'; obtain ⟨pv, mv, cv, rfl⟩ := own_shape hown'; have r2 := VRow.grown p2 hgrow (fun e => by have := hne _ e.symm; omega); have z2 := r2.frozen 2; have s2 := r2.at 2 rfl)
        have hr0 := VRow.other (i := 2) (.slice pv mv cv) (p0.grown hgrow (fun e => by have := hne _ e.symm; omega)) (C := w.heap.size + 1 + 1) (by omega)
        have hr1 := VRow.other (i := 2) (.slice pv mv cv) (p1.grown hgrow (fun e => by have := hne _ e.symm; omega)) (C := w.heap.size + 1 + 1) (by omega)
        have hBf : RowKit.Below w.heap.size w (w1.setCell (⟨w.heap.size + 1 + 1, 2, none⟩ : Addr) (.slice pv mv cv)) := (hBA.grown hgrow (Nat.le_trans hBq.size (by simp)) (fun j e => by have := hne _ e; omega)).setCell (show w.heap.size ≤ w.heap.size + 1 + 1 by omega) _
        go_roundw
        case rel =>
          refine ⟨k + 1, _, by omega, by go_num, hr0, hr1, VRow.set (i := 2) _ r2, ?_, hBf, ?_⟩
          · rw [HSN.out]
            exact ownsRow_setCell_below (a := (⟨w.heap.size + 1 + 1, 2, none⟩ : Addr)) (own_conv hown' rfl (Nat.le_refl _)) (show w.heap.size + 1 + 1 < w.heap.size + 1 + 1 + 1 by omega) _
          · rw [World.size_setCell]; have := hgrow.size; rw [World.size_alloc] at this; omega
        case measure => simp [intOf]; omega
      · have HSN : Hid (List.filterMap (partE st) (G.es.take (k + 1)) = M) := by rw [Hid, hSN.out, part_stop hm]; simp
        have hor : decide (x.f ∈ st) = false ∨ (decide (x.f ∈ st) = true ∧ decide (x.t ∈ st) = false) := by
          by_cases h1 : x.f ∈ st
          · exact .inr ⟨decide_eq_true h1, decide_eq_false (fun h2 => hm ⟨h1, h2⟩)⟩
          · exact .inl (decide_eq_false h1)
        clear hSN hm hi hj
        generalize decide (x.f ∈ st) = b1 at *
        generalize decide (x.t ∈ st) = b2 at *
        rcases hor with rfl | ⟨rfl, rfl⟩
        all_goals
          go_wp2_with fail
          go_roundw
          case rel =>
            refine ⟨k + 1, v, by omega, by go_num, hq0, hq1, hq2, ?_, hBq, by omega⟩
            rw [HSN.out]; exact hownq
          case measure => simp [intOf]; omega
    · obtain rfl : k = G.es.length := by omega
      rw [List.take_length] at hown
      have k0 := c2.at 0 rfl; have k1 := c2.at 1 rfl; have k2 := c2.at 2 rfl
      have j0 := c1.at 0 rfl; have j1 := c1.at 1 rfl; have j2 := c1.at 2 rfl
      have z0 := c1.frozen 0; have z1 := c1.frozen 1; have z2 := c1.frozen 2
      obtain ⟨pv, mv, cv, rfl⟩ := own_shape hown
      go_wp2
      have r6 := VRow.set (i := 2) (.slice pv mv cv) (VRow.set (i := 1) (.int .i64 st.length) (VRow.set (i := 0) (.int .i64 G.q) c1))
      have y0 := r6.at 0 rfl; have y1 := r6.at 1 rfl; have y2 := r6.at 2 rfl
      have hz0 : w.heap.size + 1 < w.heap.size + 1 + 1 + 1 := by omega
      have o6 := ownsRow_setCell_below (a := (⟨w.heap.size + 1, 2, none⟩ : Addr)) (ownsRow_setCell_below (a := (⟨w.heap.size + 1, 1, none⟩ : Addr)) (ownsRow_setCell_below (a := (⟨w.heap.size + 1, 0, none⟩ : Addr)) hown hz0 (.int .i64 G.q)) hz0 (.int .i64 st.length)) hz0 (.slice pv mv cv)
      have x6 : RowKit.Below w.heap.size w (((wr.setCell (⟨w.heap.size + 1, 0, none⟩ : Addr) (.int .i64 G.q)).setCell (⟨w.heap.size + 1, 1, none⟩ : Addr) (.int .i64 st.length)).setCell (⟨w.heap.size + 1, 2, none⟩ : Addr) (.slice pv mv cv)) :=
        ((hB.setCell (show w.heap.size ≤ w.heap.size + 1 by omega) _).setCell (show w.heap.size ≤ w.heap.size + 1 by omega) _).setCell (show w.heap.size ≤ w.heap.size + 1 by omega) _
      refine bodyPost_ret (v := .agg #[.int .i64 G.q, .int .i64 st.length, .slice pv mv cv]) (by simp [results, Tryz.results64, go_sem, y0, y1, y2]) rfl ?_
      exact ⟨_, _, _, rfl, own_conv o6 rfl (by omega), x6⟩
end Go.Proofs.YthelgembcfdhdaaGreat
namespace Go.Proofs.YthelgembcfdhdaaGreat
open Go.RowKit Go.Sort Go.Shelf Go.Lib

theorem infoIn : (Tryz.prog.info? 3).map (fun i => (i.zero, i.size, i.bytes)) = some (some (.int .i64 0), 1, 8) := by kernel_rfl
/-- Where edges that leave a state stand, among the first k. -/
def outI (es : List Ed) (s : Int) (k : Nat) : List Int := ((List.range k).filter (fun i => decide (es[i]?.map Ed.f = some s))).map (fun (i : Nat) => (i : Int))
theorem outI_zero (es : List Ed) (s : Int) : outI es s 0 = [] := rfl
theorem outI_succ {es : List Ed} {s : Int} {k : Nat} (h : k < es.length) : outI es s (k + 1) = outI es s k ++ (if es[k].f = s then [(k : Int)] else []) := by
  unfold outI
  rw [List.range_succ, List.filter_append, List.map_append]
  congr 1
  by_cases hs : es[k].f = s <;> simp [h, hs]
theorem outI_len (es : List Ed) (s : Int) (k : Nat) : (outI es s k).length ≤ k := by
  unfold outI
  rw [List.length_map]
  exact Nat.le_trans (List.length_filter_le _ _) (by simp)
/-- Where edges that leave a state stand, and the error. -/
def outA (G : Gr) (s : Int) : List Int × Int := if chkG G = 0 then (if s < 0 ∨ G.n ≤ s then ([], 25) else (outI G.es s G.es.length, 0)) else ([], 1)
/-- A list of numbers in memory of the call's own, and an error. -/
def RetLi (r : List Int) (k : Int) (w : World) (e : Ending) (w' : World) : Prop := ∃ p m c, e = .returned (.tuple #[.slice p m c, .int .i64 k]) ∧ w'.ownsRow w.heap.size 3 1 (.slice p m c) r.length (r.map (Value.int .i64)) ∧ RowKit.Below w.heap.size w w'
theorem RetLi.of {x : List Int × Int} {r : List Int} {k : Int} {w w' : World} {B m : Nat} {v : Value} (hx : x = (r, k)) (h : w'.ownsRow B 3 1 v r.length (r.map (Value.int .i64))) (hm : w.heap.size ≤ B) (hB : RowKit.Below w.heap.size w w') :
    RetLi x.1 x.2 w (.returned (.tuple #[v, .int .i64 k])) w' := by
  subst hx
  obtain ⟨p, c, rfl, _⟩ := own_sl h
  exact ⟨p, _, c, rfl, ⟨h.1, h.2.imp id (fun ⟨g, cap, cur, a, b, z⟩ => ⟨g, cap, cur, a, Nat.le_trans hm b, z⟩)⟩, hB⟩
theorem RetLi.nil {x : List Int × Int} {k : Int} {w w' : World} (hx : x = ([], k)) (hB : RowKit.Below w.heap.size w w') :
    RetLi x.1 x.2 w (.returned (.tuple #[.slice none 0 0, .int .i64 k])) w' := by
  subst hx; exact ⟨none, 0, 0, rfl, World.ownsRow_nil _ _ _ _, hB⟩

end Go.Proofs.YthelgembcfdhdaaGreat
namespace Go.Proofs.YthelgembcfdhdaaGreat
open Go.RowKit

def cmsE (es : List Ed) (st : List Int) (s : Int) : Bool := es.any (fun x => decide (x.t = s) && decide (x.f ∈ st))
def goesE (es : List Ed) (st : List Int) (s : Int) : Bool := es.any (fun x => decide (x.f = s) && decide (x.t ∈ st))
/-- One round: states with an edge to them and one from them. -/
def essP (es : List Ed) (st : List Int) (s : Int) : Bool := cmsE es st s && goesE es st s
def essS (es : List Ed) (st : List Int) : List Int := st.filter (essP es st)
theorem essS_le (es : List Ed) (st : List Int) : (essS es st).length ≤ st.length := List.length_filter_le _ _
/-- The states of the essential part. -/
def ess (es : List Ed) (st : List Int) : List Int := if (essS es st).length = st.length then st else ess es (essS es st)
termination_by st.length
decreasing_by
  have := essS_le es st; omega
theorem ess_stop {es : List Ed} {st : List Int} (h : (essS es st).length = st.length) : ess es st = st := by rw [ess, if_pos h]
theorem ess_go {es : List Ed} {st : List Int} (h : ¬ (essS es st).length = st.length) : ess es st = ess es (essS es st) := by rw [ess, if_neg h]
theorem filter_all {p : Int → Bool} : ∀ {l : List Int}, (l.filter p).length = l.length → l.filter p = l := by
  intro l h
  exact List.filter_eq_self.2 (by
    intro a ha
    have := List.length_filter_eq_length_iff.1 h
    exact this a ha)
theorem essS_eq {es : List Ed} {st : List Int} (h : (essS es st).length = st.length) : essS es st = st := filter_all h
theorem essS_srt {es : List Ed} {st : List Int} (h : st.Pairwise (· < ·)) : (essS es st).Pairwise (· < ·) := h.filter _
theorem filter_snoc (p : Int → Bool) (l : List Int) (k : Nat) (h : k < l.length) : (l.take (k + 1)).filter p = (l.take k).filter p ++ (if p l[k] = true then [l[k]] else []) := by
  rw [List.take_succ_eq_append_getElem h, List.filter_append]
  congr 1
  cases hp : p l[k] <;> simp [hp]
theorem any_snoc {α : Type} (p : α → Bool) (l : List α) (k : Nat) (h : k < l.length) : (l.take (k + 1)).any p = ((l.take k).any p || p l[k]) := by
  rw [List.take_succ_eq_append_getElem h, List.any_append]; simp
/-- The numbers below n. -/
def upto (n : Nat) : List Int := (List.range n).map (fun (i : Nat) => (i : Int))
theorem upto_succ (n : Nat) : upto (n + 1) = upto n ++ [(n : Int)] := by simp [upto, List.range_succ]
theorem upto_len (n : Nat) : (upto n).length = n := by simp [upto]
theorem upto_srt (n : Nat) : (upto n).Pairwise (· < ·) := by
  induction n with
  | zero => simp [upto]
  | succ n ih =>
    rw [upto_succ, List.pairwise_append]
    refine ⟨ih, by simp, fun a ha b hb => ?_⟩
    simp only [List.mem_singleton] at hb
    subst hb
    simp only [upto, List.mem_map, List.mem_range] at ha
    obtain ⟨i, hi, rfl⟩ := ha
    omega
/-- The essential part, its states, and the error. -/
def essA (G : Gr) : Gr × List Int × Int := if chkG G = 0 then (partA G (ess G.es (upto G.n.toNat)), ess G.es (upto G.n.toNat), 0) else (⟨0, 0, []⟩, [], 1)
theorem essA_ok {G : Gr} (h : chkG G = 0) : essA G = (partA G (ess G.es (upto G.n.toNat)), ess G.es (upto G.n.toNat), 0) := if_pos h
theorem essA_bad {G : Gr} (h : ¬ chkG G = 0) : essA G = (⟨0, 0, []⟩, [], 1) := if_neg h
end Go.Proofs.YthelgembcfdhdaaGreat
namespace Go.Proofs.YthelgembcfdhdaaGreat
open Go.RowKit Go.Sort Go.Shelf Go.Lib

def okI (a : Int) : Prop := (Lit.int .i64 a).wf = true
theorem okI_of {a : Int} (h0 : 0 ≤ a) (h1 : a ≤ 1000000) : okI a := WalkArith.wf_i64 (by omega)
theorem keyI : KeyBy Tryz.prog 3 (Value.int .i64) okI where
  law := Maps.int_keyed Tryz.underlying3
  reads := fun a ha => ⟨.int .i64 a, by simp [keyOf, mapKey, Tryz.underlying3]; exact ha⟩
  inj := fun a b _ _ h => by simpa using h
theorem zeroBl (w : World) : (zeroValue 4).run Tryz.prog w = .ok (.bool false) w := by kernel_rfl
/-- Block b is a map of numbers in which those that f names are true. -/
def MapB (w : World) (b : Nat) (f : Int → Bool) : Prop := Mp (Value.int .i64) okI Value.bool w b (fun a => if f a = true then some true else none)
theorem MapB.congr {w : World} {b : Nat} {f g : Int → Bool} (h : MapB w b f) (e : ∀ a, f a = g a) : MapB w b g := by
  have : f = g := funext e
  exact this ▸ h
theorem MapB.look {w : World} {b : Nat} {f : Int → Bool} (h : MapB w b f) (a : Int) (ha : okI a) : (Instr.lookup 83 (.map (some b)) (.int .i64 a) false).run Tryz.prog w = .ok (.bool (f a)) w := by
  have := Mp.look h keyI Tryz.underlying83 (zeroBl w) a ha false
  rw [this]
  cases f a <;> rfl

set_option maxRecDepth 100000 in
set_option maxHeartbeats 1000000 in
/-- The closure: a state is left out if no edge leads to it, or none leaves it. -/
theorem gEss1_gives (f g : Int → Bool) (b1 b2 m1 m2 : Nat) (W : World) (x : Int) (hx : okI x) (h1 : W.cell? ⟨b1, 0, none⟩ = some (.map (some m1))) (h2 : W.cell? ⟨b2, 0, none⟩ = some (.map (some m2))) (hf : MapB W m1 f) (hg : MapB W m2 g) :
    FnGives Tryz.prog 63 #[.pointer (some ⟨b1, 0, none⟩), .pointer (some ⟨b2, 0, none⟩)] #[.int .i64 x] (.bool (!(f x && g x))) W := by
  show Calls Tryz.prog 63 #[.int .i64 x, .pointer (some ⟨b1, 0, none⟩), .pointer (some ⟨b2, 0, none⟩)] W _
  have l1 := hf.look x hx
  have l2 := hg.look x hx
  clear hf hg hx
  generalize f x = u at *
  generalize g x = v at *
  go_enter Tryz.func63, Tryz.ntmps63
  cases u
  · go_wp2
    go_ret
    exact ⟨rfl, 0, rfl⟩
  · cases v
    · go_wp2
      go_ret
      exact ⟨rfl, 0, rfl⟩
    · go_wp2
      go_ret
      exact ⟨rfl, 0, rfl⟩
end Go.Proofs.YthelgembcfdhdaaGreat
