/-
  Walks: the statement GraphParts (door seat).
-/
import Derived.Test.YtkknkbdkokdbfaaDoorHf
import Derived.Test.YtkknkbdkokdbfaaDoorHj
namespace Go.Proofs.YtkknkbdkokdbfaaDoor
open Go.RowKit Go.Sort Go.Shelf Go.Lib

/-- Whether the bit of a number is set. -/
def bitB (b : Int) (k : Nat) : Bool := bits BinOp.and IntKind.u16 (b / 2 ^ (k % 16)) 1 == 1
/-- The numbers below n whose bits are set. -/
def chS (b : Int) (n : Nat) : List Int := (upto n).filter (fun i => bitB b i.toNat)
theorem chS_succ (b : Int) (k : Nat) : chS b (k + 1) = chS b k ++ (if bitB b k = true then [(k : Int)] else []) := by
  unfold chS
  rw [uptof_succ, Int.toNat_natCast]
theorem chS_len (b : Int) (k : Nat) : (chS b k).length ≤ k := uptof_len _ _
theorem chS_st {n : Int} (b : Int) (h : 0 ≤ n) : St n (chS b n.toNat) := (St.upto h).filter _
theorem bit_full (k : Nat) : bitB 65535 k = true := by
  have key : ∀ r, r < 16 → (bits BinOp.and IntKind.u16 ((65535 : Int) / 2 ^ r) 1 == 1) = true := by decide +kernel
  exact key (k % 16) (Nat.mod_lt _ (by decide))
theorem chS_full (n : Nat) : chS 65535 n = upto n := List.filter_eq_self.2 (fun a _ => bit_full a.toNat)
theorem u16_bd {n : Int} (h : (Lit.int .u16 n).wf = true) : 0 ≤ n ∧ n ≤ 65535 := by
  simp [Lit.wf, IntKind.min, IntKind.max, IntKind.signed, IntKind.bits] at h
  omega

/-- A list of numbers in memory. -/
def RetCh (l : List Int) (w : World) (e : Ending) (w' : World) : Prop := ∃ p c, e = .returned (.slice p l.length c) ∧ Sl w' (Value.int .i64) p l ∧ RowKit.Below w.heap.size w w'
set_option maxRecDepth 100000 in
set_option maxHeartbeats 1000000 in
theorem choose_any (n b : Int) (w : World) (hn : 0 ≤ n ∧ n ≤ 64) (hb : 0 ≤ b ∧ b ≤ 65535) :
    Calls Tryd.prog 29 #[.int .i64 n, .int .u16 b] w (RetCh (chS b n.toNat) w) := by
  obtain ⟨i0, hi0, hz0, hz1, hz3⟩ := info_parts infoIn
  go_enter Tryd.func29, Tryd.ntmps29
  go_wp2
  go_loopw [5, 8] (fun ov iv wr => ∃ k : Nat, k ≤ n.toNat ∧ iv = .int .i64 k ∧ wr.ownsRow w.heap.size 3 1 ov (chS b k).length ((chS b k).map (Value.int .i64)) ∧ RowKit.Below w.heap.size w wr) (fun _ iv _ => n.toNat - (intOf iv).toNat)
  case atStart => exact ⟨0, by omega, rfl, World.ownsRow_nil _ _ _ _, RowKit.Below.refl _ _⟩
  case round =>
    obtain ⟨k, hk, rfl, hown, hB⟩ := hrel
    by_cases hlt : (k : Int) < n
    · have hk1 : k + 1 ≤ n.toNat := by omega
      have q16 : IntKind.i64.wrap ((k : Int) % 16) = (k : Int) % 16 := IntWalk.i64_in _ (by omega)
      have HS := hidI (chS_succ b k)
      have hl := chS_len b k
      have hk64 : k < 64 := by omega
      generalize chS b k = M at *
      have hnew := cell_one_at wr (.int .i64 (k : Int)) 3 wr.heap.size rfl
      cases hbit : bitB b k
      · have hbf : (bits BinOp.and IntKind.u16 (b / 2 ^ (k % 16)) 1 == 1) = false := hbit
        have HS : Hid (chS b (k + 1) = M) := by rw [Hid, HS.out, hbit]; simp
        clear hbit
        go_wp2_with fail
        go_roundw
        case rel => exact ⟨k + 1, hk1, by go_num, by rw [HS.out]; exact hown, hB⟩
        case measure => simp [intOf]; omega
      · have hbt : (bits BinOp.and IntKind.u16 (b / 2 ^ (k % 16)) 1 == 1) = true := hbit
        have HS : Hid (chS b (k + 1) = M ++ [(k : Int)]) := by rw [Hid, HS.out, hbit]; simp
        clear hbit
        go_wp2_with (at_builtin; refine wpList_append_own _ rfl _ _ 37 rfl w.heap.size 3 i0 (.int .i64 0) 1 8 Tryd.underlying37 hi0 hz0 hz1 hz3 rfl (by decide) _ _ _ rfl (hown.alloc _) ⟨wr.heap.size, 0, none⟩ 1 1 [.int .i64 (k : Int)] rfl rfl hnew (by simp [Value.oneCell']) (by simp [maxLen]; omega) (by omega) (by rw [World.size_alloc]; have := hB.size; omega) ?_; intro v' w2 hown' hgrow _)
        go_roundw
        case rel => exact ⟨k + 1, hk1, by go_num, by rw [HS.out, List.length_append, List.map_append]; exact hown', (hB.alloc hB.size _).grown hgrow (Nat.le_trans hB.size (by simp)) (fun j e => (hown.lt j e).1)⟩
        case measure => simp [intOf]; omega
    · obtain rfl : n.toNat = k := by omega
      obtain ⟨p, c, rfl, hs⟩ := own_sl hown
      go_wp2
      go_ret
      exact ⟨p, c, rfl, hs, hB⟩
def mn2 (x y : Int) : Int := if y < x then y else x
theorem run_mn2 (x y : Int) (w : World) : (Builtin.min_ #[3, 3] 3 #[.int .i64 x, .int .i64 y]).run Tryd.prog w = .ok (.int .i64 (mn2 x y)) w := by kernel_rfl
theorem both_snoc (st inner : List Int) (k : Nat) (h : k < inner.length) : bothA st (inner.take (k + 1)) = bothA st (inner.take k) ++ [st.getD inner[k].toNat 0] := by
  unfold bothA
  rw [List.take_succ_eq_append_getElem h, List.map_append]; rfl
/-- No step from a single state below k, by a label below L, has two results. -/
def uqB (G : Gr) (L k : Nat) : Bool := (List.range k).all (fun s => (List.range L).all (fun l => decide ((nextA G [(s : Int)] (l : Int)).length < 2)))
def uqL (G : Gr) (s : Int) (j : Nat) : Bool := (List.range j).all (fun l => decide ((nextA G [s] (l : Int)).length < 2))
theorem uqL_succ (G : Gr) (s : Int) (j : Nat) : uqL G s (j + 1) = (uqL G s j && decide ((nextA G [s] (j : Int)).length < 2)) := by simp [uqL, List.range_succ]
theorem uqB_succ (G : Gr) (L k : Nat) : uqB G L (k + 1) = (uqB G L k && uqL G (k : Int) L) := by simp [uqB, uqL, List.range_succ]
theorem uq_det {G : Gr} (h : Vg G) (hq : G.q ≤ 16) : detB G.es = uqB G (mn2 G.q 16).toNat G.n.toNat := by
  have hm : (mn2 G.q 16).toNat = G.q.toNat := by unfold mn2; split <;> omega
  rw [hm, Bool.eq_iff_iff]
  have h1 := h.q1; have h2 := h.n1
  constructor
  · intro hd
    unfold uqB
    rw [List.all_eq_true]
    intro s _
    rw [List.all_eq_true]
    intro l _
    exact decide_eq_true (step_one h hd _ _)
  · intro hu
    refine det_of_steps h (fun s b hs0 hs1 hb0 hb1 => ?_)
    have h3 := List.all_eq_true.1 hu s.toNat (by rw [List.mem_range]; omega)
    have h4 := List.all_eq_true.1 h3 b.toNat (by rw [List.mem_range]; omega)
    have h5 := of_decide_eq_true h4
    rwa [Int.toNat_of_nonneg hs0, Int.toNat_of_nonneg hb0] at h5

/-- Where the part on all states lies. -/
def Whole14 (G : Gr) (W : World) (s18 s19 : Value) (wx : World) : Prop := ∃ B p c, s18 = .pointer (some ⟨B, 0, none⟩) ∧ s19 = .int .i64 0 ∧ VRow wx B 24 [.int .i64 G.q, .int .i64 G.n, .slice p G.es.length c] ∧ Sg 3 wx edE p G.es ∧ RowKit.Below W.heap.size W wx
theorem whole_set {G : Gr} {W wb : World} {B : Nat} {p : Option Addr} {c : Nat} (hr : VRow wb B 24 [.int .i64 0, .int .i64 0, .slice none 0 0]) (hB : W.heap.size ≤ B) (hs : Sg 3 wb edE p G.es) (hb : RowKit.Below W.heap.size W wb) :
    Whole14 G W (.pointer (some ⟨B, 0, none⟩)) (.int .i64 0) (((wb.setCell ⟨B, 0, none⟩ (.int .i64 G.q)).setCell ⟨B, 1, none⟩ (.int .i64 G.n)).setCell ⟨B, 2, none⟩ (.slice p G.es.length c)) := by
  have r6 := VRow.set (i := 2) (.slice p G.es.length c) (VRow.set (i := 1) (.int .i64 G.n) (VRow.set (i := 0) (.int .i64 G.q) hr))
  refine ⟨B, p, c, rfl, rfl, r6, ?_, ((hb.setCell (p := ⟨B, 0, none⟩) hB _).setCell (p := ⟨B, 1, none⟩) hB _).setCell (p := ⟨B, 2, none⟩) hB _⟩
  rcases hs with h | ⟨b, off, h1, h2, h3⟩
  · exact .inl h
  · refine .inr ⟨b, off, h1, by simpa [World.size_setCell] using h2, fun i hi j hj => ?_⟩
    have hne : b ≠ B := by
      rintro rfl
      have k := h3 i hi 2 (by decide)
      rw [hr.cell] at k
      generalize off + i * 3 = N at k
      match N, k with
      | 0, k => simp [edE] at k
      | n + 1, k => simp [edE] at k
    rw [← h3 i hi j hj]
    have e : (((wb.setCell ⟨B, 0, none⟩ (.int .i64 G.q)).setCell ⟨B, 1, none⟩ (.int .i64 G.n)).setCell ⟨B, 2, none⟩ (.slice p G.es.length c)).heap[b]? = wb.heap[b]? := by
      rw [Below.heap_setCell _ _ _ _ hne, Below.heap_setCell _ _ _ _ hne, Below.heap_setCell _ _ _ _ hne]
    exact World.cell?_of_block (a := ⟨b, off + i * 3 + j, none⟩) e

set_option maxRecDepth 100000 in
set_option maxHeartbeats 4000000 in
theorem lawGParts_any (G : Gr) (p : Option Addr) (c : Nat) (a b : Int) (w : World) (hin : Sg 3 w edE p G.es) (hl : G.es.length ≤ 9223372036854775807) (ha : 0 ≤ a ∧ a ≤ 65535) (hb : 0 ≤ b ∧ b ≤ 65535) :
    Calls Tryd.prog 6 #[(.agg #[.int .i64 G.q, .int .i64 G.n, .slice p G.es.length c]), .int .u16 a, .int .u16 b] w fun e w' => e = .returned (.bool true) ∧ RowKit.Below w.heap.size w w' := by
  have HIN := hidI hin
  clear hin
  have b0 : VRow (w.alloc (.cells #[.int .i64 G.q, .int .i64 G.n, .slice p G.es.length c] 24)) w.heap.size 24 [.int .i64 G.q, .int .i64 G.n, .slice p G.es.length c] := VRow.new w _ _
  have x0 : RowKit.Below w.heap.size w (w.alloc (.cells #[.int .i64 G.q, .int .i64 G.n, .slice p G.es.length c] 24)) := (RowKit.Below.refl _ _).alloc (Nat.le_refl _) _
  cases hf : fineB G
  · have HF := hidI hf
    clear hf
    go_enter Tryd.func6, Tryd.ntmps6
    go_wp2_with fail
    refine (fine_any G p c _ (HIN.out.below x0) hl).mono ?_
    rw [HF.out]
    rintro e w1 ⟨rfl, hB1⟩
    have x1 := x0.trans (hB1.mono x0.size)
    go_wp2_with fail
    refine (awake_any w1).mono ?_
    rintro e w2 ⟨rfl, hB2⟩
    go_wp2
    go_ret
    exact ⟨rfl, x1.trans (hB2.mono x1.size)⟩
  · obtain ⟨hv, hes, hn10⟩ := fine_ok hf
    have HF := hidI hf; have HV := hidI hv
    have h3 := hv.n1; have hq1 := hv.q1; have hq2 := hv.q2
    clear hf
    have hT := chS_st a h3
    have hTl : (chS a G.n.toNat).length ≤ 10 := by have := chS_len a G.n.toNat; omega
    have HCH := hidI (choose_any G.n a)
    have hI : St ((chS a G.n.toNat).length : Int) (chS b (chS a G.n.toNat).length) := by
      have := chS_st (n := ((chS a G.n.toNat).length : Int)) b (by omega)
      rwa [Int.toNat_natCast] at this
    have HC2 : Hid (∀ w, Calls Tryd.prog 29 #[.int .i64 (chS a G.n.toNat).length, .int .u16 b] w (RetCh (chS b (chS a G.n.toNat).length) w)) := fun w => by
      have := choose_any ((chS a G.n.toNat).length : Int) b w (by omega) hb
      rwa [Int.toNat_natCast] at this
    have hIl : (chS b (chS a G.n.toNat).length).length ≤ 10 := by have := chS_len b (chS a G.n.toNat).length; omega
    generalize chS a G.n.toNat = T at *
    generalize chS b T.length = I at *
    have HT := hidI hT; have HI := hidI hI
    have HK1 : Hid (keepA G T = (partA G T, 0)) := keepA_ok hv hT
    have hPv := part_vg hv hT
    have HPV := hidI hPv
    have HK2 : Hid (keepA (partA G T) I = (partA G (bothA T I), 0)) := by
      have := keepA_ok hPv (st := I) hI
      rw [part_part hT hI] at this
      exact this
    have HK3 : Hid (keepA G (bothA T I) = (partA G (bothA T I), 0)) := keepA_ok hv (both_st hT hI)
    have HK4 : Hid (keepA G (upto G.n.toNat) = (G, 0)) := by
      have := keepA_ok hv (St.upto h3)
      rwa [part_all hv] at this
    have HD1 : Hid (detB G.es = true → detB (partA G T).es = true) := fun h => det_part hv h
    have hPl : (partA G T).es.length ≤ 30 := Nat.le_trans (partE_len _ _) hes
    have hQl : (partA G (bothA T I)).es.length ≤ 30 := Nat.le_trans (partE_len _ _) hes
    have HUQ : Hid (G.q ≤ 16 → detB G.es = uqB G (mn2 G.q 16).toNat G.n.toNat) := uq_det hv
    clear hT hI hPv hv
    generalize partA G T = P at *
    generalize partA G (bothA T I) = Q at *
    go_enter Tryd.func6, Tryd.ntmps6
    go_wp2_with fail
    refine (fine_any G p c _ (HIN.out.below x0) hl).mono ?_
    rw [HF.out]
    rintro e w1 ⟨rfl, hB1⟩
    have b1 := b0.below hB1 b0.lt
    have x1 := x0.trans (hB1.mono x0.size)
    clear hB1 b0 x0
    have f1 := b1.at 1 rfl
    go_wp2_with fail
    refine (HCH.out w1 (by omega) ha).mono ?_
    rintro e w2 ⟨p2, c2, rfl, l2, hB2⟩
    have b2 := b1.below hB2 b1.lt
    have x2 := x1.trans (hB2.mono x1.size)
    clear hB2 b1 x1 f1
    go_wp2_with fail
    refine (HC2.out w2).mono ?_
    rintro e w3 ⟨p3, c3, rfl, l3, hB3⟩
    have b3 := b2.below hB3 b2.lt
    have x3 := x2.trans (hB3.mono x2.size)
    have l23 := l2.below hB3
    clear hB3 b2 x2 l2
    obtain ⟨i0, hi0, hz0, hz1, hz3⟩ := info_parts infoIn
    go_wp2
    go_loopw [9, 43] (fun ov iv wr => ∃ k : Nat, k ≤ I.length ∧ iv = .int .i64 k ∧ wr.ownsRow w3.heap.size 3 1 ov (bothA T (I.take k)).length ((bothA T (I.take k)).map (Value.int .i64)) ∧ RowKit.Below w3.heap.size w3 wr) (fun _ iv _ => I.length - (intOf iv).toNat)
    case atStart => exact ⟨0, by omega, rfl, World.ownsRow_nil _ _ _ _, RowKit.Below.refl _ _⟩
    case round =>
      obtain ⟨k, hk, rfl, hown, hB⟩ := hrel
      by_cases hlt : k < I.length
      · obtain ⟨bi, oi, rfl, _, ci⟩ := (l3.below hB).get k hlt
        have e1 := ci k hlt
        have hIk := HI.out.ins I[k] (List.getElem_mem hlt)
        have HBS := hidI (both_snoc T I k hlt)
        have hBl : (bothA T (I.take k)).length ≤ 10 := by unfold bothA; rw [List.length_map, List.length_take]; omega
        clear ci
        generalize I[k] = y at *
        obtain ⟨n, rfl⟩ : ∃ n : Nat, y = (n : Int) := ⟨y.toNat, by omega⟩
        have hnl : n < T.length := by omega
        obtain ⟨bt, ot, rfl, _, ct⟩ := (l23.below hB).get n hnl
        have e2 := ct n hnl
        have HBT : Hid (T.getD ((n : Int)).toNat 0 = T[n]) := by unfold Hid; rw [Int.toNat_natCast, List.getD_eq_getElem?_getD, List.getElem?_eq_getElem hnl]; rfl
        rw [HBT.out] at HBS
        clear ct HBT
        generalize T[n] = z at *
        generalize bothA T (I.take k) = M at *
        have hnew := cell_one_at wr (.int .i64 z) 3 wr.heap.size rfl
        go_wp2_with (at_builtin; refine wpList_append_own _ rfl _ _ 37 rfl w3.heap.size 3 i0 (.int .i64 0) 1 8 Tryd.underlying37 hi0 hz0 hz1 hz3 rfl (by decide) _ _ _ rfl (hown.alloc _) ⟨wr.heap.size, 0, none⟩ 1 1 [.int .i64 z] rfl rfl hnew (by simp [Value.oneCell']) (by simp [maxLen]; omega) (by omega) (by rw [World.size_alloc]; have := hB.size; omega) ?_; intro v' w2 hown' hgrow _)
        go_roundw
        case rel => exact ⟨k + 1, by omega, by go_num, by rw [HBS.out, List.length_append, List.map_append]; exact hown', (hB.alloc hB.size _).grown hgrow (Nat.le_trans hB.size (by simp)) (fun j e => (hown.lt j e).1)⟩
        case measure => simp [intOf]; omega
      · obtain rfl : I.length = k := by omega
        rw [List.take_length] at hown
        have hBl : (bothA T I).length ≤ 10 := by unfold bothA; rw [List.length_map]; omega
        generalize bothA T I = U at *
        obtain ⟨p4, c4, rfl, l4⟩ := own_sl hown
        obtain ⟨w4, rfl⟩ : ∃ w4 : World, w4 = wr := ⟨_, rfl⟩
        have b4 := b3.below hB b3.lt
        have x4 := x3.trans (hB.mono x3.size)
        have l24 := l23.below hB; have l34 := l3.below hB
        clear hB b3 x3 l23 l3 hown
        have f0 := b4.at 0 rfl; have f1 := b4.at 1 rfl; have f2 := b4.at 2 rfl
        have hK := gKeep_any G p c T p2 c2 w4 (HIN.out.below x4) l24 (by omega) (by omega)
        rw [HK1.out] at hK
        have HK := hidI hK
        clear hK
        go_wp2_with fail
        refine HK.out.mono ?_
        rintro e v5 ⟨p5, c5, rfl, s5, _, hB5⟩
        have hA5 : RowKit.Below w4.heap.size w4 (v5.alloc (.cells #[.int .i64 P.q, .int .i64 P.n, .slice p5 P.es.length c5] 24)) := hB5.alloc hB5.size _
        have b5 := b4.below hA5 b4.lt
        have x5 := x4.trans (hA5.mono x4.size)
        have l35 := l34.below hA5; have l45 := l4.below hA5
        have s5' := s5.below ((RowKit.Below.refl _ v5).alloc (Nat.le_refl _) (.cells #[.int .i64 P.q, .int .i64 P.n, .slice p5 P.es.length c5] 24))
        have y5 : VRow (v5.alloc (.cells #[.int .i64 P.q, .int .i64 P.n, .slice p5 P.es.length c5] 24)) v5.heap.size 24 [.int .i64 P.q, .int .i64 P.n, .slice p5 P.es.length c5] := VRow.new v5 _ _
        clear hA5 hB5 b4 x4 f0 f1 f2 l24 l34 l4 HK s5
        go_upto_region 12 with fail
        generalize v5.alloc (.cells #[.int .i64 P.q, .int .i64 P.n, .slice p5 P.es.length c5] 24) = w5 at *
        generalize v5.heap.size = B5 at *
        have f0 := y5.at 0 rfl; have f1 := y5.at 1 rfl; have f2 := y5.at 2 rfl
        have hK := gKeep_any P p5 c5 I p3 c3 w5 s5' l35 (by omega) (by omega)
        rw [HK2.out] at hK
        have HK := hidI hK
        clear hK
        go_wp2_with fail
        refine HK.out.mono ?_
        rintro e v6 ⟨p6, c6, rfl, s6, _, hB6⟩
        have hA6 : RowKit.Below w5.heap.size w5 (v6.alloc (.cells #[.int .i64 Q.q, .int .i64 Q.n, .slice p6 Q.es.length c6] 24)) := hB6.alloc hB6.size _
        have b6 := b5.below hA6 b5.lt
        have x6 := x5.trans (hA6.mono x5.size)
        have l46 := l45.below hA6
        have s56 := s5'.below hA6
        have y56 := y5.below hA6 y5.lt
        have s6' := s6.below ((RowKit.Below.refl _ v6).alloc (Nat.le_refl _) (.cells #[.int .i64 Q.q, .int .i64 Q.n, .slice p6 Q.es.length c6] 24))
        have y6 : VRow (v6.alloc (.cells #[.int .i64 Q.q, .int .i64 Q.n, .slice p6 Q.es.length c6] 24)) v6.heap.size 24 [.int .i64 Q.q, .int .i64 Q.n, .slice p6 Q.es.length c6] := VRow.new v6 _ _
        clear hA6 hB6 b5 x5 f0 f1 f2 l35 l45 HK s6 s5' y5
        go_upto_region 13 with fail
        generalize v6.alloc (.cells #[.int .i64 Q.q, .int .i64 Q.n, .slice p6 Q.es.length c6] 24) = w6 at *
        generalize v6.heap.size = B6 at *
        have f0 := b6.at 0 rfl; have f1 := b6.at 1 rfl; have f2 := b6.at 2 rfl
        have hK := gKeep_any G p c U p4 c4 w6 (HIN.out.below x6) l46 (by omega) (by omega)
        rw [HK3.out] at hK
        have HK := hidI hK
        clear hK
        go_wp2_with fail
        refine HK.out.mono ?_
        rintro e v7 ⟨p7, c7, rfl, s7, _, hB7⟩
        have hA7 : RowKit.Below w6.heap.size w6 (v7.alloc (.cells #[.int .i64 Q.q, .int .i64 Q.n, .slice p7 Q.es.length c7] 24)) := hB7.alloc hB7.size _
        have b7 := b6.below hA7 b6.lt
        have x7 := x6.trans (hA7.mono x6.size)
        have s57 := s56.below hA7; have y57 := y56.below hA7 y56.lt
        have s67 := s6'.below hA7; have y67 := y6.below hA7 y6.lt
        have s7' := s7.below ((RowKit.Below.refl _ v7).alloc (Nat.le_refl _) (.cells #[.int .i64 Q.q, .int .i64 Q.n, .slice p7 Q.es.length c7] 24))
        have y7 : VRow (v7.alloc (.cells #[.int .i64 Q.q, .int .i64 Q.n, .slice p7 Q.es.length c7] 24)) v7.heap.size 24 [.int .i64 Q.q, .int .i64 Q.n, .slice p7 Q.es.length c7] := VRow.new v7 _ _
        clear hA7 hB7 b6 x6 f0 f1 f2 l46 HK s7 s56 y56 s6' y6
        go_upto_region 14 with fail
        generalize v7.alloc (.cells #[.int .i64 Q.q, .int .i64 Q.n, .slice p7 Q.es.length c7] 24) = w7 at *
        generalize v7.heap.size = B7 at *
        have q0 := rows3 b7 (RowKit.Below.refl _ w7)
        have HKS : Hid (∀ V, RowKit.Below w7.heap.size w7 V → (V.cell? ⟨w.heap.size, 0, none⟩ = some (.int .i64 G.q) ∧ V.cell? ⟨w.heap.size, 1, none⟩ = some (.int .i64 G.n) ∧ V.cell? ⟨w.heap.size, 2, none⟩ = some (.slice p G.es.length c)) ∧ RowKit.Below w7.heap.size w7 V) := fun V h => ⟨rows3 b7 h, h⟩
        have HGX : Hid (∀ V, RowKit.Below w7.heap.size w7 V → Sg 3 V edE p G.es) := fun V h => HIN.out.below (x7.trans (h.mono x7.size))
        have HCF : Hid (∀ V, Calls Tryd.prog 29 #[.int .i64 G.n, .int .u16 65535] V (RetCh (upto G.n.toNat) V)) := fun V => by
          have := choose_any G.n 65535 V (by omega) (by omega)
          rwa [chS_full] at this
        have HKW : Hid (∀ (V : World) (q : Option Addr) (d : Nat), Sg 3 V edE p G.es → Sl V (Value.int .i64) q (upto G.n.toNat) → Calls Tryd.prog 25 #[(.agg #[.int .i64 G.q, .int .i64 G.n, .slice p G.es.length c]), .slice q (upto G.n.toNat).length d] V (RetGr G 0 V)) := fun V q d h1 h2 => by
          have := gKeep_any G p c (upto G.n.toNat) q d V h1 h2 (by omega) (by rw [upto_len]; omega)
          rwa [HK4.out] at this
        generalize upto G.n.toNat = UU at *
        obtain ⟨q00, q01, q02⟩ := q0
        go_cut [18, 19] (fun s18 s19 wx => Whole14 G w7 s18 s19 wx)
        case first =>
          go_region_held3 (fun V => (V.cell? ⟨w.heap.size, 0, none⟩ = some (.int .i64 G.q) ∧ V.cell? ⟨w.heap.size, 1, none⟩ = some (.int .i64 G.n) ∧ V.cell? ⟨w.heap.size, 2, none⟩ = some (.slice p G.es.length c)) ∧ RowKit.Below w7.heap.size w7 V)
            ((go_split_ands; refine HKS.out _ ?_; first
              | assumption
              | exact (RowKit.Below.refl _ _).drew
              | exact RowKit.Below.trans (by assumption) (hCa.mono (RowKit.Below.size (by assumption)))
              | exact RowKit.Below.trans (by assumption) (hCb.mono (RowKit.Below.size (by assumption)))
              | exact hWb.alloc hWb.size _
              | exact RowKit.Below.alloc (by assumption) (RowKit.Below.size (by assumption)) _
              | exact ((RowKit.Below.setCell hWb (Nat.le_refl _) _).setCell (Nat.le_refl _) _).setCell (Nat.le_refl _) _
              | exact ((RowKit.Below.setCell hWb hWa.size _).setCell hWa.size _).setCell hWa.size _
              | exact ((RowKit.Below.setCell (hWb.alloc hWb.size _) hWb.size _).setCell hWb.size _).setCell hWb.size _
              | exact ((RowKit.Below.setCell (by assumption) (Nat.le_refl _) _).setCell (Nat.le_refl _) _).setCell (Nat.le_refl _) _
              | exact ((RowKit.Below.setCell (by assumption) (RowKit.Below.size (by assumption)) _).setCell (RowKit.Below.size (by assumption)) _).setCell (RowKit.Below.size (by assumption)) _
              | fail))
            (first
              | (go_at_call 29; go_split_ands; refine (HCF.out _).mono ?_; rintro e wa ⟨pU, cU, rfl, lU, hCa⟩; have hWa : RowKit.Below w7.heap.size w7 wa := RowKit.Below.trans (by assumption) (hCa.mono (RowKit.Below.size (by assumption))); (try (have rz0 := VRow.new w7 24 [.int .i64 0, .int .i64 0, .slice none 0 0]; have rz1 := rz0.below ((RowKit.Below.refl _ _).drew) rz0.lt; have rz := rz1.below hCa rz1.lt; clear rz0 rz1; have rz0 := rz.at 0 rfl; have rz1 := rz.at 1 rfl; have rz2 := rz.at 2 rfl; have rf0 := rz.frozen 0; have rf1 := rz.frozen 1; have rf2 := rz.frozen 2)))
              | (go_at_call 25; go_split_ands; refine (HKW.out _ pU cU (HGX.out _ (by assumption)) (by first | exact lU | exact lU.below ((RowKit.Below.refl _ _).alloc (Nat.le_refl _) _))).mono ?_; rintro e wb ⟨pW, cW, rfl, sW, _, hCb⟩; have hWb : RowKit.Below w7.heap.size w7 wb := RowKit.Below.trans (by assumption) (hCb.mono (RowKit.Below.size (by assumption))); (try (have ry := VRow.below (VRow.new wa 24 [.int .i64 0, .int .i64 0, .slice none 0 0]) hCb (by simp); have ry0 := ry.at 0 rfl; have ry1 := ry.at 1 rfl; have ry2 := ry.at 2 rfl; have rg0 := ry.frozen 0; have rg1 := ry.frozen 1; have rg2 := ry.frozen 2)); (try (have ry := rz.below hCb rz.lt; have ry0 := ry.at 0 rfl; have ry1 := ry.at 1 rfl; have ry2 := ry.at 2 rfl; have rg0 := ry.frozen 0; have rg1 := ry.frozen 1; have rg2 := ry.frozen 2)))
              | fail)
          · go_wp2_with fail
            go_meet
            exact ⟨wb.heap.size, pW, cW, rfl, rfl, VRow.new wb _ _, sW.below ((RowKit.Below.refl _ _).alloc (Nat.le_refl _) _), hWb.alloc hWb.size _⟩
          · go_wp2_with fail
            go_meet
            exact whole_set ry hWa.size sW hWb
          · go_wp2_with fail
            go_meet
            exact whole_set ry (Nat.le_refl _) sW hWb
        case rest =>
          obtain ⟨B8, p8, c8, rfl, rfl, y8, s8, hB8⟩ := hcut
          have b8 := b7.below hB8 b7.lt
          have x8 := x7.trans (hB8.mono x7.size)
          have s58 := s57.below hB8; have y58 := y57.below hB8 y57.lt
          have s68 := s67.below hB8; have y68 := y67.below hB8 y67.lt
          have s78 := s7'.below hB8; have y78 := y7.below hB8 y7.lt
          clear HKS HGX HCF HKW q00 q01 q02 s57 y57 s67 y67 s7' y7 hB8 b7 x7
          have m0 := y68.at 0 rfl; have m1 := y68.at 1 rfl; have m2 := y68.at 2 rfl
          have n0 := y78.at 0 rfl; have n1 := y78.at 1 rfl; have n2 := y78.at 2 rfl
          have mx := run_mx4 wc
          go_wp2_with fail
          refine (gSame_s Q Q p6 p7 c6 c7 true wc (sameG_refl _) s68 s78 (by omega) (by omega)).mono ?_
          rintro e w9 ⟨rfl, hB9⟩
          have b9 := b8.below hB9 b8.lt
          have x9 := x8.trans (hB9.mono x8.size)
          have s59 := s58.below hB9; have y59 := y58.below hB9 y58.lt
          have s89 := s8.below hB9; have y89 := y8.below hB9 y8.lt
          clear m0 m1 m2 n0 n1 n2 s68 s78 y68 y78 s58 y58 s8 y8 b8 x8 hB9
          have m0 := y89.at 0 rfl; have m1 := y89.at 1 rfl; have m2 := y89.at 2 rfl
          have n0 := b9.at 0 rfl; have n1 := b9.at 1 rfl; have n2 := b9.at 2 rfl
          go_wp2_with fail
          refine (gSame_s G G p8 p c8 c true w9 (sameG_refl _) s89 (HIN.out.below x9) (by omega) (by omega)).mono ?_
          rintro e w10 ⟨rfl, hBX⟩
          have b10 := b9.below hBX b9.lt
          have x10 := x9.trans (hBX.mono x9.size)
          have s510 := s59.below hBX; have y510 := y59.below hBX y59.lt
          clear m0 m1 m2 n0 n1 n2 s59 y59 s89 y89 b9 x9 hBX
          have f1 := b10.at 1 rfl
          have hL0 : 0 ≤ mn2 G.q 16 ∧ mn2 G.q 16 ≤ 16 ∧ mn2 G.q 16 ≤ G.q := by unfold mn2; split <;> omega
          have hmn := fun V => run_mn2 G.q 16 V
          obtain ⟨L, hL⟩ : ∃ L, L = mn2 G.q 16 := ⟨_, rfl⟩
          rw [← hL] at HUQ hL0
          simp only [← hL] at hmn
          clear hL
          go_wp2
          go_loopw [20, 101] (fun uv iv wr => ∃ k : Nat, (k : Int) ≤ G.n ∧ iv = .int .i64 k ∧ uv = .bool (uqB G L.toNat k) ∧ RowKit.Below w10.heap.size w10 wr) (fun _ iv _ => G.n.toNat - (intOf iv).toNat)
          case atStart => exact ⟨0, by omega, rfl, rfl, RowKit.Below.refl _ _⟩
          case round =>
            obtain ⟨k, hk, rfl, rfl, hB⟩ := hrel
            by_cases hlt : (k : Int) < G.n
            · have HU := hidI (uqB_succ G L.toNat k)
              generalize uqB G L.toNat k = u at *
              have b11 := b10.below hB b10.lt
              have f0 := b11.at 0 rfl
              have hm := hmn wr
              obtain ⟨w11, rfl⟩ : ∃ w11 : World, w11 = wr := ⟨_, rfl⟩
              go_wp2
              go_loopw [20, 107] (fun uv iv wq => ∃ j : Nat, (j : Int) ≤ L ∧ iv = .int .i64 j ∧ uv = .bool (u && uqL G k j) ∧ RowKit.Below w11.heap.size w11 wq) (fun _ iv _ => L.toNat - (intOf iv).toNat)
              case atStart => exact ⟨0, by omega, rfl, by simp [uqL], RowKit.Below.refl _ _⟩
              case round =>
                obtain ⟨j, hj, rfl, rfl, hC⟩ := hrel
                by_cases hlj : (j : Int) < L
                · have HV2 : Hid ((u && uqL G k (j + 1)) = ((u && uqL G k j) && decide ((nextA G [(k : Int)] (j : Int)).length < 2))) := by unfold Hid; rw [uqL_succ, Bool.and_assoc]
                  generalize (u && uqL G k j) = v at *
                  have b12 := b11.below hC b11.lt
                  have f0 := b12.at 0 rfl; have f1 := b12.at 1 rfl; have f2 := b12.at 2 rfl
                  have hAl : RowKit.Below wr.heap.size wr (wr.alloc (.cells #[.int .i64 k] 3)) := (RowKit.Below.refl _ _).alloc (Nat.le_refl _) _
                  have hst := gStep_any G p c [(k : Int)] (some ⟨wr.heap.size, 0, none⟩) 1 j (wr.alloc (.cells #[.int .i64 k] 3)) (HIN.out.below ((x10.trans (hB.mono x10.size)).trans ((hC.trans (hAl.mono hC.size)).mono (x10.trans (hB.mono x10.size)).size))) (Sl.of_vrow (VRow.new wr 3 [.int .i64 k])) (by omega) (by simp)
                  rw [stepA_one HV.out (by omega) hlt (by omega) (by omega)] at hst
                  have HST := hidI hst
                  clear hst
                  go_wp2_with fail
                  refine HST.out.mono ?_
                  rintro e w13 hret
                  obtain ⟨pb, cb, rfl, _, hB13⟩ := retLi_open hret
                  have hC' := (hC.trans (hAl.mono hC.size)).trans (hB13.mono (hC.trans (hAl.mono hC.size)).size)
                  clear hret HST hB13 hAl f0 f1 f2
                  have hnl : (nextA G [(k : Int)] (j : Int)).length ≤ 64 := by have := uptof_len (nxP G.es [(k : Int)] (j : Int)) G.n.toNat; show ((upto G.n.toNat).filter (nxP G.es [(k : Int)] (j : Int))).length ≤ 64; omega
                  generalize (nextA G [(k : Int)] (j : Int)).length = z at *
                  cases hv : v
                  · go_wp2
                    go_roundw
                    case rel => exact ⟨j + 1, by omega, by go_num, by rw [HV2.out, hv]; rfl, hC'⟩
                    case measure => simp [intOf]; omega
                  · by_cases hz2 : z < 2
                    · go_wp2
                      go_roundw
                      case rel => exact ⟨j + 1, by omega, by go_num, by rw [HV2.out, hv]; simp; omega, hC'⟩
                      case measure => simp [intOf]; omega
                    · go_wp2
                      go_roundw
                      case rel => exact ⟨j + 1, by omega, by go_num, by rw [HV2.out, hv]; simp; omega, hC'⟩
                      case measure => simp [intOf]; omega
                · obtain rfl : j = L.toNat := by omega
                  have hk1 : RowKit.Below w10.heap.size w10 wr := hB.trans (hC.mono hB.size)
                  rw [← HU.out]
                  go_wp2
                  go_roundw
                  case rel => exact ⟨k + 1, by omega, by go_num, rfl, hk1⟩
                  case measure => simp [intOf]; omega
            · obtain rfl : k = G.n.toNat := by omega
              generalize uqB G L.toNat G.n.toNat = u at *
              have b11 := b10.below hB b10.lt
              have x11 := x10.trans (hB.mono x10.size)
              have s511 := s510.below hB; have y511 := y510.below hB y510.lt
              have f0 := b11.at 0 rfl; have f1 := b11.at 1 rfl; have f2 := b11.at 2 rfl
              have hD := gDet_any G p c wr (HIN.out.below x11) (by omega)
              rw [detA_ok (chkG_ok.2 HV.out)] at hD
              have HD := hidI hD
              clear hD
              go_wp2_with fail
              refine HD.out.mono ?_
              rintro e w12 ⟨rfl, hB12⟩
              have b12 := b11.below hB12 b11.lt
              have x12 := x11.trans (hB12.mono x11.size)
              have s512 := s511.below hB12; have y512 := y511.below hB12 y511.lt
              clear f0 f1 f2 HD hB12
              have f0 := y512.at 0 rfl; have f1 := y512.at 1 rfl; have f2 := y512.at 2 rfl
              have hD := gDet_any P p5 c5 w12 s512 (by omega)
              rw [detA_ok (chkG_ok.2 HPV.out)] at hD
              have HD := hidI hD
              clear hD
              go_wp2_with fail
              refine HD.out.mono ?_
              rintro e w13 ⟨rfl, hB13⟩
              have b13 := b12.below hB13 b12.lt
              have x13 := x12.trans (hB13.mono x12.size)
              clear f0 f1 f2 HD hB13
              have f0 := b13.at 0 rfl
              have haw := awake_any
              cases hd : detB G.es
              · by_cases hq16 : G.q ≤ 16
                · have hu := HUQ.out hq16
                  rw [hd] at hu
                  have hgt : decide (16 < G.q) = false := decide_eq_false (by omega)
                  subst hu
                  go_wp2_with fail
                  refine (awake_any w13).mono ?_
                  rintro e w14 ⟨rfl, hB14⟩
                  go_wp2
                  go_ret
                  exact ⟨rfl, x13.trans (hB14.mono x13.size)⟩
                · have hgt : decide (16 < G.q) = true := decide_eq_true (by omega)
                  go_wp2_with fail
                  refine (awake_any w13).mono ?_
                  rintro e w14 ⟨rfl, hB14⟩
                  go_wp2
                  go_ret
                  exact ⟨rfl, x13.trans (hB14.mono x13.size)⟩
              · have hP1 := HD1.out hd
                rw [hP1]
                by_cases hq16 : G.q ≤ 16
                · have hu := HUQ.out hq16
                  rw [hd] at hu
                  have hgt : decide (16 < G.q) = false := decide_eq_false (by omega)
                  subst hu
                  go_wp2_with fail
                  refine (awake_any w13).mono ?_
                  rintro e w14 ⟨rfl, hB14⟩
                  go_wp2
                  go_ret
                  exact ⟨rfl, x13.trans (hB14.mono x13.size)⟩
                · have hgt : decide (16 < G.q) = true := decide_eq_true (by omega)
                  go_wp2_with fail
                  refine (awake_any w13).mono ?_
                  rintro e w14 ⟨rfl, hB14⟩
                  go_wp2
                  go_ret
                  exact ⟨rfl, x13.trans (hB14.mono x13.size)⟩
end Go.Proofs.YtkknkbdkokdbfaaDoor
