/-
  Words, plain lemmas and walks, merged: We, Xd, Ra, Rb, Rc.
-/
import Derived.Test.YtjpilmedlecdhaaGreatZxh
import Derived.Deep.RegionHeld3
import Derived.RowKit3
import Derived.Deep.RegionWith
import Derived.Test.YtjpilmedlecdhaaGreatZxf
import Derived.Maps.RangeRun
import Derived.OwnWalkIn
import Derived.Test.YtjpilmedlecdhaaGreatZxg
import Derived.Test.YtjpilmedlecdhaaGreatZxc
import Derived.Test.YtjpilmedlecdhaaGreatZxe
set_option linter.unusedVariables false
set_option linter.unusedSimpArgs false
namespace Go.Proofs.YtjpilmedlecdhaaGreat
open Go.RowKit

/-! ### A further swap at its place -/
def insW (l : List Sw) (s : Sw) : List Sw := l.takeWhile (fun y => lexB y s) ++ s :: l.dropWhile (fun y => lexB y s)
def wthT (T : Tb) (s : Sw) : Tb := { T with swaps := insW T.swaps s }
theorem insW_mem {l : List Sw} {s y : Sw} : y ∈ insW l s ↔ y = s ∨ y ∈ l := by
  unfold insW
  have h : y ∈ l.takeWhile (fun y => lexB y s) ++ l.dropWhile (fun y => lexB y s) ↔ y ∈ l := by rw [List.takeWhile_append_dropWhile]
  rw [List.mem_append] at h
  rw [List.mem_append, List.mem_cons]
  constructor
  · rintro (h1 | h1 | h1)
    · exact .inr (h.1 (.inl h1))
    · exact .inl h1
    · exact .inr (h.1 (.inr h1))
  · rintro (h1 | h1)
    · exact .inr (.inl h1)
    · rcases h.2 h1 with h2 | h2
      · exact .inl h2
      · exact .inr (.inr h2)
theorem insW_len (l : List Sw) (s : Sw) : (insW l s).length = l.length + 1 := by
  unfold insW
  have h := congrArg List.length (List.takeWhile_append_dropWhile (p := fun y => lexB y s) (l := l))
  rw [List.length_append] at h ⊢
  rw [List.length_cons]; omega
theorem isSw_ins (l : List Sw) (s : Sw) (a b : Int) : isSw (insW l s) a b = (isSw l a b || (decide (s.i = a) && decide (s.j = b))) := by
  unfold isSw
  rw [Bool.eq_iff_iff]
  simp only [List.any_eq_true, Bool.or_eq_true, Bool.and_eq_true, decide_eq_true_eq]
  constructor
  · rintro ⟨y, hy, h1, h2⟩
    rcases insW_mem.1 hy with rfl | hy
    · exact .inr ⟨h1, h2⟩
    · exact .inl ⟨y, hy, h1, h2⟩
  · rintro (⟨y, hy, h⟩ | h)
    · exact ⟨y, insW_mem.2 (.inr hy), h⟩
    · exact ⟨s, insW_mem.2 (.inl rfl), h⟩

/-! ### A swap for each bad pair -/
def bdP (T : Tb) (G : Gr) (i j : Nat) : Bool := !accA G (bget T.base i ++ bget T.base j)
/-- A pair is bad, or one of some swaps. -/
def isE (T : Tb) (G : Gr) (S : List Sw) (b i : Nat) : Bool := bdP T G b i || isSw S b i
def okB (T : Tb) (G : Gr) (S : List Sw) (i : Nat) (v : ByteArray) (b : Nat) : Bool := accA G (v ++ bget T.base b) && (isE T G S b i || accA G (bget T.base b ++ v))
def okE (T : Tb) (G : Gr) (S : List Sw) (out : Tb) (i j : Nat) (v : ByteArray) : Bool :=
  (List.range T.base.length).all (okB T G S i v) && (fmd (wthT out ⟨i, j, v⟩) && rdbl (wthT out ⟨i, j, v⟩))
def exS (all : List ByteArray) (T : Tb) (G : Gr) (S : List Sw) (out : Tb) (i j : Nat) : Option Tb := (all.find? (okE T G S out i j)).map (fun v => wthT out ⟨i, j, v⟩)
/-- One pair, in the program's way. -/
def exP (all : List ByteArray) (T : Tb) (G : Gr) (x : Option Tb) (p : Nat × Nat) : Option Tb :=
  x.bind (fun out => if isSw T.swaps p.1 p.2 = true then some out else exS all T G T.swaps out p.1 p.2)
/-- One pair, in the reference's way. -/
def exR (all : List ByteArray) (T : Tb) (G : Gr) (x : Option Tb) (p : Nat × Nat) : Option Tb :=
  x.bind (fun out => if isSw T.swaps p.1 p.2 = true then some out else exS all T G out.swaps out p.1 p.2)
/-- The bad pairs. -/
def bdN (T : Tb) (G : Gr) (k : Nat) : List (Nat × Nat) := (List.range k).flatMap (fun i => ((List.range T.base.length).filter (fun j => bdP T G i j)).map (fun j => (i, j)))
def extP (all : List ByteArray) (T : Tb) (G : Gr) (l : List (Nat × Nat)) : Option Tb := l.foldl (exP all T G) (some T)
def extR (all : List ByteArray) (T : Tb) (G : Gr) (l : List (Nat × Nat)) : Option Tb := l.foldl (exR all T G) (some T)
/-- What holds of a table under way. -/
structure ExI (T : Tb) (G : Gr) (out : Tb) : Prop where
  q : out.q = T.q
  n : out.n = T.n
  base : out.base = T.base
  sub : ∀ y ∈ T.swaps, y ∈ out.swaps
  sw : ∀ a b : Nat, isSw out.swaps a b = true → isSw T.swaps a b = true ∨ bdP T G a b = true
theorem ExI.start (T : Tb) (G : Gr) : ExI T G T := ⟨rfl, rfl, rfl, fun _ h => h, fun _ _ h => .inl h⟩
theorem isSw_sub {l m : List Sw} (h : ∀ y ∈ l, y ∈ m) {a b : Int} (hs : isSw l a b = true) : isSw m a b = true := by
  unfold isSw at hs ⊢
  rw [List.any_eq_true] at hs ⊢
  obtain ⟨y, hy, h2⟩ := hs
  exact ⟨y, h y hy, h2⟩
theorem ExI.isE {T : Tb} {G : Gr} {out : Tb} (h : ExI T G out) (b i : Nat) : isE T G out.swaps b i = isE T G T.swaps b i := by
  unfold Go.Proofs.YtjpilmedlecdhaaGreat.isE
  cases hb : bdP T G b i
  · rw [Bool.false_or, Bool.false_or, Bool.eq_iff_iff]
    constructor
    · intro hs
      rcases h.sw b i hs with h1 | h1
      · exact h1
      · rw [hb] at h1; cases h1
    · exact isSw_sub h.sub
  · rfl
theorem ExI.okE {T : Tb} {G : Gr} {out : Tb} (h : ExI T G out) (i j : Nat) : okE T G out.swaps out i j = okE T G T.swaps out i j := by
  funext v
  unfold Go.Proofs.YtjpilmedlecdhaaGreat.okE
  congr 2
  funext b
  unfold okB
  rw [h.isE]
theorem ExI.exS {all : List ByteArray} {T : Tb} {G : Gr} {out : Tb} (h : ExI T G out) (i j : Nat) : exS all T G out.swaps out i j = exS all T G T.swaps out i j := by
  unfold Go.Proofs.YtjpilmedlecdhaaGreat.exS; rw [h.okE]
theorem ExI.ins {T : Tb} {G : Gr} {out : Tb} (h : ExI T G out) {i j : Nat} (hb : bdP T G i j = true) (v : ByteArray) : ExI T G (wthT out ⟨i, j, v⟩) := by
  refine ⟨h.q, h.n, h.base, fun y hy => insW_mem.2 (.inr (h.sub y hy)), fun a b hs => ?_⟩
  have : isSw (insW out.swaps ⟨i, j, v⟩) a b = true := hs
  rw [isSw_ins, Bool.or_eq_true] at this
  rcases this with h1 | h1
  · exact h.sw a b h1
  · simp only [Bool.and_eq_true, decide_eq_true_eq] at h1
    have e1 : i = a := by omega
    have e2 : j = b := by omega
    subst e1 e2
    exact .inr hb
theorem exS_some {all : List ByteArray} {T : Tb} {G : Gr} {S : List Sw} {out x : Tb} {i j : Nat} (h : exS all T G S out i j = some x) : ∃ v ∈ all, okE T G S out i j v = true ∧ x = wthT out ⟨i, j, v⟩ := by
  unfold exS at h
  obtain ⟨v, hv, rfl⟩ := Option.map_eq_some_iff.1 h
  exact ⟨v, List.mem_of_find?_eq_some hv, List.find?_some hv, rfl⟩
/-- Both ways are one. -/
theorem ext_eq {all : List ByteArray} {T : Tb} {G : Gr} : ∀ (l : List (Nat × Nat)) (x : Option Tb), (∀ p ∈ l, bdP T G p.1 p.2 = true) → (∀ out, x = some out → ExI T G out) → l.foldl (exR all T G) x = l.foldl (exP all T G) x ∧ ∀ out, l.foldl (exP all T G) x = some out → ExI T G out
  | [], x, _, hx => ⟨rfl, hx⟩
  | p :: l, x, hl, hx => by
    rw [List.foldl_cons, List.foldl_cons]
    have hp := hl p (List.mem_cons_self ..)
    have e : exR all T G x p = exP all T G x p := by
      cases x with
      | none => rfl
      | some out =>
        unfold exR exP
        simp only [Option.bind_some]
        rw [(hx out rfl).exS]
    rw [e]
    refine ext_eq l _ (fun p hp => hl p (List.mem_cons_of_mem _ hp)) (fun out ho => ?_)
    cases x with
    | none => cases ho
    | some o =>
      unfold exP at ho
      simp only [Option.bind_some] at ho
      split at ho
      · cases ho; exact hx _ rfl
      · obtain ⟨v, _, _, rfl⟩ := exS_some ho
        exact (hx o rfl).ins hp v
theorem fold_none {all : List ByteArray} {T : Tb} {G : Gr} : ∀ l : List (Nat × Nat), l.foldl (exP all T G) none = none
  | [] => rfl
  | _ :: l => by rw [List.foldl_cons]; exact fold_none l
/-- Swaps stay. -/
theorem exP_sub {all : List ByteArray} {T : Tb} {G : Gr} {o out : Tb} {p : Nat × Nat} (h : exP all T G (some o) p = some out) : ∀ y ∈ o.swaps, y ∈ out.swaps := by
  unfold exP at h
  simp only [Option.bind_some] at h
  split at h
  · cases h; exact fun _ h => h
  · obtain ⟨v, _, _, rfl⟩ := exS_some h
    exact fun y hy => insW_mem.2 (.inr hy)
theorem fold_sub {all : List ByteArray} {T : Tb} {G : Gr} : ∀ (l : List (Nat × Nat)) {o out : Tb}, l.foldl (exP all T G) (some o) = some out → ∀ y ∈ o.swaps, y ∈ out.swaps
  | [], o, out, h => by cases h; exact fun _ h => h
  | p :: l, o, out, h => by
    rw [List.foldl_cons] at h
    cases hx : exP all T G (some o) p with
    | none => rw [hx, fold_none] at h; cases h
    | some o2 =>
      rw [hx] at h
      exact fun y hy => fold_sub l h y (exP_sub hx y hy)
/-- Each pair has a swap. -/
theorem fold_has {all : List ByteArray} {T : Tb} {G : Gr} : ∀ (l : List (Nat × Nat)) {o out : Tb}, (∀ y ∈ T.swaps, y ∈ o.swaps) → l.foldl (exP all T G) (some o) = some out → ∀ p ∈ l, isSw out.swaps p.1 p.2 = true
  | [], _, _, _, _ => fun _ h => by cases h
  | p :: l, o, out, hs, h => by
    rw [List.foldl_cons] at h
    cases hx : exP all T G (some o) p with
    | none => rw [hx, fold_none] at h; cases h
    | some o2 =>
      rw [hx] at h
      intro p' hp'
      rcases List.mem_cons.1 hp' with rfl | hp'
      · have h2 : isSw o2.swaps p'.1 p'.2 = true := by
          unfold exP at hx
          simp only [Option.bind_some] at hx
          split at hx
          · rename_i h3; cases hx; exact isSw_sub hs h3
          · obtain ⟨v, _, _, rfl⟩ := exS_some hx
            show isSw (insW o.swaps _) _ _ = true
            rw [isSw_ins]; simp
        exact isSw_sub (fold_sub l h) h2
      · exact fold_has l (fun y hy => exP_sub hx y (hs y hy)) h p' hp'
/-- The table is as it was, or well formed and readable. -/
theorem fold_ok {all : List ByteArray} {T : Tb} {G : Gr} : ∀ (l : List (Nat × Nat)) {o out : Tb}, l.foldl (exP all T G) (some o) = some out → out = o ∨ (fmd out = true ∧ rdbl out = true)
  | [], _, _, h => by cases h; exact .inl rfl
  | p :: l, o, out, h => by
    rw [List.foldl_cons] at h
    cases hx : exP all T G (some o) p with
    | none => rw [hx, fold_none] at h; cases h
    | some o2 =>
      rw [hx] at h
      rcases fold_ok l h with rfl | h2
      · unfold exP at hx
        simp only [Option.bind_some] at hx
        split at hx
        · cases hx; exact .inl rfl
        · obtain ⟨v, _, hv, rfl⟩ := exS_some hx
          unfold okE at hv
          rw [Bool.and_eq_true, Bool.and_eq_true] at hv
          exact .inr hv.2
      · exact .inr h2
/-- All that the law asks of an extended table. -/
structure ExL (T : Tb) (G : Gr) (l : List (Nat × Nat)) (x : Tb) : Prop where
  inv : ExI T G x
  has : ∀ p ∈ l, isSw x.swaps p.1 p.2 = true
  ok : x = T ∨ (fmd x = true ∧ rdbl x = true)
  nil : l = [] → x = T
theorem ext_all {all : List ByteArray} {T : Tb} {G : Gr} {l : List (Nat × Nat)} {x : Tb} (hl : ∀ p ∈ l, bdP T G p.1 p.2 = true) (h : extP all T G l = some x) : ExL T G l x := by
  refine ⟨(ext_eq l (some T) hl (fun o ho => by cases ho; exact ExI.start T G)).2 x h, fold_has l (fun _ h => h) h, fold_ok l h, fun e => ?_⟩
  subst e
  cases h; rfl
theorem ext_same {all : List ByteArray} {T : Tb} {G : Gr} {l : List (Nat × Nat)} (hl : ∀ p ∈ l, bdP T G p.1 p.2 = true) : extR all T G l = extP all T G l :=
  (ext_eq l (some T) hl (fun o ho => by cases ho; exact ExI.start T G)).1
theorem bdN_bad {T : Tb} {G : Gr} {k : Nat} : ∀ p ∈ bdN T G k, bdP T G p.1 p.2 = true := by
  intro p hp
  obtain ⟨i, _, hi⟩ := List.mem_flatMap.1 hp
  obtain ⟨j, hj, rfl⟩ := List.mem_map.1 hi
  exact (List.mem_filter.1 hj).2
/-! ### A further swap, in the reference's way -/
def rwS (s : Sw) : List Sw → List Sw
  | [] => [s]
  | y :: r => if lexB s y = true then s :: y :: r else y :: rwS s r
theorem lex_tri (a b : Sw) (h : ¬ (a.i = b.i ∧ a.j = b.j)) : lexB a b = !lexB b a := by
  unfold lexB
  rw [Bool.eq_iff_iff]
  simp only [Bool.or_eq_true, Bool.and_eq_true, decide_eq_true_eq, Bool.not_eq_true', Bool.or_eq_false_iff, Bool.and_eq_false_imp, decide_eq_false_iff_not]
  constructor
  · rintro (h1 | ⟨h1, h2⟩)
    · exact ⟨by omega, fun h2 => by omega⟩
    · exact ⟨by omega, fun h3 => by omega⟩
  · rintro ⟨h1, h2⟩
    by_cases h3 : a.i < b.i
    · exact .inl h3
    · refine .inr ⟨by omega, ?_⟩
      have h4 := h2 (by omega)
      have h5 : a.j ≠ b.j := fun e => h ⟨by omega, e⟩
      omega
theorem rwS_ins {s : Sw} : ∀ {l : List Sw}, (∀ y ∈ l, ¬ (y.i = s.i ∧ y.j = s.j)) → rwS s l = insW l s
  | [], _ => rfl
  | y :: r, h => by
    have h1 := lex_tri y s (h y (List.mem_cons_self ..))
    unfold rwS
    cases hs : lexB s y
    · rw [hs] at h1
      have ih := rwS_ins (s := s) (l := r) (fun z hz => h z (List.mem_cons_of_mem _ hz))
      rw [if_neg (by simp), ih]
      unfold insW
      rw [List.takeWhile_cons_of_pos (by exact h1), List.dropWhile_cons_of_pos (by exact h1)]; rfl
    · rw [hs] at h1
      rw [if_pos rfl]
      unfold insW
      rw [List.takeWhile_cons_of_neg (by rw [h1]; simp), List.dropWhile_cons_of_neg (by rw [h1]; simp)]; rfl
theorem rwS_none {s : Sw} : ∀ {a : List Sw}, (∀ y ∈ a, lexB s y = false) → rwS s a = a ++ [s]
  | [], _ => rfl
  | y :: r, h => by
    unfold rwS
    rw [if_neg (by rw [h y (List.mem_cons_self ..)]; simp), rwS_none (fun z hz => h z (List.mem_cons_of_mem _ hz))]; rfl
theorem rwS_first {s z : Sw} : ∀ {a : List Sw}, (∀ y ∈ a, lexB s y = false) → lexB s z = true → rwS s (a ++ [z]) = a ++ [s, z]
  | [], _, hz => by show rwS s [z] = _; unfold rwS; rw [if_pos hz]; rfl
  | y :: r, h, hz => by
    show rwS s (y :: (r ++ [z])) = _
    unfold rwS
    rw [if_neg (by rw [h y (List.mem_cons_self ..)]; simp), rwS_first (fun z hz => h z (List.mem_cons_of_mem _ hz)) hz]; rfl
theorem rwS_more {s z : Sw} : ∀ {a : List Sw}, (∃ y ∈ a, lexB s y = true) → rwS s (a ++ [z]) = rwS s a ++ [z]
  | [], h => by obtain ⟨y, hy, _⟩ := h; cases hy
  | y :: r, h => by
    show rwS s (y :: (r ++ [z])) = rwS s (y :: r) ++ [z]
    unfold rwS
    cases hs : lexB s y
    · rw [if_neg (by simp), if_neg (by simp)]
      have h2 : ∃ y ∈ r, lexB s y = true := by
        obtain ⟨x, hx, hx2⟩ := h
        rcases List.mem_cons.1 hx with rfl | hx
        · rw [hs] at hx2; cases hx2
        · exact ⟨x, hx, hx2⟩
      rw [rwS_more h2]; rfl
    · rw [if_pos rfl, if_pos rfl]; rfl
theorem isSw_ne {l : List Sw} {i j : Int} (h : isSw l i j = false) : ∀ y ∈ l, ¬ (y.i = i ∧ y.j = j) := by
  intro y hy he
  unfold isSw at h
  rw [List.any_eq_false] at h
  exact h y hy (by simp [he.1, he.2])
/-! ### A further swap, in the program's way -/
def posW (l : List Sw) (s : Sw) : Nat := (l.takeWhile (fun y => lexB y s)).length
theorem posW_le (l : List Sw) (s : Sw) : posW l s ≤ l.length := by
  have h := congrArg List.length (List.takeWhile_append_dropWhile (p := fun y => lexB y s) (l := l))
  rw [List.length_append] at h
  unfold posW; omega
theorem insW_at (l : List Sw) (s : Sw) : insW l s = l.take (posW l s) ++ s :: l.drop (posW l s) := by
  have h := List.takeWhile_append_dropWhile (p := fun y => lexB y s) (l := l)
  have h1 : l.take (posW l s) = l.takeWhile (fun y => lexB y s) := by
    have h3 : posW l s = (l.takeWhile (fun y => lexB y s)).length := rfl
    rw [h3]
    conv => lhs; arg 2; rw [← h]
    exact List.take_left
  have h2 : l.drop (posW l s) = l.dropWhile (fun y => lexB y s) := by
    have h3 : posW l s = (l.takeWhile (fun y => lexB y s)).length := rfl
    rw [h3]
    conv => lhs; arg 2; rw [← h]
    exact List.drop_left
  rw [h1, h2]; rfl
/-- A place that parts the lesser swaps from the others is the place. -/
theorem posW_eq {s : Sw} : ∀ {l : List Sw} {p : Nat}, p ≤ l.length → (∀ k (h : k < l.length), k < p → lexB l[k] s = true) → (∀ k (h : k < l.length), p ≤ k → lexB l[k] s = false) → posW l s = p
  | [], p, hp, _, _ => by
    have : p = 0 := by simpa using hp
    subst this; rfl
  | y :: r, 0, _, _, h2 => by
    have := h2 0 (by simp) (by omega)
    simp only [List.getElem_cons_zero] at this
    unfold posW
    rw [List.takeWhile_cons_of_neg (by rw [this]; simp)]; rfl
  | y :: r, p + 1, hp, h1, h2 => by
    have h0 := h1 0 (by simp) (by omega)
    simp only [List.getElem_cons_zero] at h0
    have ih := posW_eq (s := s) (l := r) (p := p) (by simpa using hp) (fun k h hk => by have := h1 (k + 1) (by simp; omega) (by omega); simpa using this) (fun k h hk => by have := h2 (k + 1) (by simp; omega) (by omega); simpa using this)
    unfold posW at ih ⊢
    rw [List.takeWhile_cons_of_pos (by exact h0), List.length_cons, ih]
end Go.Proofs.YtjpilmedlecdhaaGreat
namespace Go.Proofs.YtjpilmedlecdhaaGreat
open Go.RowKit Go.Sort Go.Shelf Go.Lib

theorem insAt_W {l : List Sw} {s : Sw} {p : Nat} (h : PrtW l s p) : insAt l s p = insW l s := by
  rw [insW_at, posW_eq h.1 h.2.1 h.2.2]; rfl
/-- A table with a further swap. -/
def RetWith (T : Tb) (s : Sw) (p1 : Option Addr) (c1 : Nat) (w : World) (e : Ending) (w' : World) : Prop :=
  ∃ p2 c2, e = .returned (.agg #[.int .i64 T.q, .int .i64 T.n, .slice p1 T.base.length c1, .slice p2 (T.swaps.length + 1) c2]) ∧ w'.ownsRow w.heap.size 53 3 (.slice p2 (T.swaps.length + 1) c2) (T.swaps.length + 1) (catS (insW T.swaps s)) ∧ RowKit.Below w.heap.size w w'
theorem own_base {W : World} {B B' e n : Nat} {v : Value} {xs : List Value} (h : W.ownsRow B e 3 v n xs) (hB : B' ≤ B) : W.ownsRow B' e 3 v n xs := by
  refine ⟨h.1, ?_⟩
  rcases h.2 with h0 | ⟨g, cap, cur, e1, hg, rest⟩
  · exact .inl h0
  · exact .inr ⟨g, cap, cur, e1, Nat.le_trans hB hg, rest⟩
theorem RetWith.sg {w : World} {p : Option Addr} {n c B : Nat} {l : List Sw} (h : w.ownsRow B 53 3 (.slice p n c) n (catS l)) : Sg 3 w swE p l := by
  obtain ⟨p', c', e, hs, _, _⟩ := own_sgS h
  cases e
  exact hs

/-- What Insert hands back, as its caller reads it. -/
def RetInsG (l : List Sw) (s : Sw) (i B : Nat) (w : World) (e : Ending) (w' : World) : Prop := ∃ p m c, e = .returned (.slice p m c) ∧ Hid (m = l.length + 1) ∧ Hid (w'.ownsRow B 53 3 (.slice p m c) (l.length + 1) (catS (insAt l s i))) ∧ RowKit.Below B w w'
theorem insertSw_sg (l : List Sw) (s : Sw) (i B vb : Nat) (v : Value) (w : World) (h : w.ownsRow B 53 3 v l.length (catS l)) (hB : B ≤ w.heap.size) (hv : VRow w vb 53 (swE s)) (hvb : v.ownBlock ≠ some vb) (hl : l.length ≤ 1000) (hi : i ≤ l.length) :
    Calls Tryz.prog 53 #[v, .int .i64 i, .slice (some ⟨vb, 0, none⟩) 1 1] w (RetInsG l s i B w) := by
  refine (insertSw_any l s i B vb v w h hB hv hvb hl hi).mono ?_
  rintro e w' ⟨v', rfl, ho, hB'⟩
  obtain ⟨p, c, rfl, hs, _, _⟩ := own_sgS ho
  exact ⟨p, _, c, rfl, insAt_len hi, ho, hB'⟩

set_option maxRecDepth 100000 in
set_option maxHeartbeats 2000000 in
theorem lkWith_any (T : Tb) (s : Sw) (p1 p2 : Option Addr) (c1 c2 : Nat) (w : World) (hin : Sg 3 w swE p2 T.swaps) (hl : T.swaps.length ≤ 1000) (hs : SrtW T.swaps) :
    Calls Tryz.prog 28 #[(.agg #[.int .i64 T.q, .int .i64 T.n, .slice p1 T.base.length c1, .slice p2 T.swaps.length c2]), (.agg #[.int .i64 s.i, .int .i64 s.j, .string s.wd])] w (RetWith T s p1 c1 w) := by
  obtain ⟨w0, hw0⟩ : ∃ w0, w0 = ((w.alloc (.cells #[.int .i64 T.q, .int .i64 T.n, .slice p1 T.base.length c1, .slice p2 T.swaps.length c2] 25)).alloc (.cells #[.int .i64 s.i, .int .i64 s.j, .string s.wd] 53)).alloc (.cells #[.int .i64 0, .int .i64 0, .slice none 0 0, .slice none 0 0] 25) := ⟨_, rfl⟩
  have b0 : VRow w0 w.heap.size 25 [.int .i64 T.q, .int .i64 T.n, .slice p1 T.base.length c1, .slice p2 T.swaps.length c2] := by subst hw0; exact ((VRow.new w _ _).alloc _).alloc _
  have b1 : VRow w0 (w.heap.size + 1) 53 [.int .i64 s.i, .int .i64 s.j, .string s.wd] := by subst hw0; exact (VRow.new1 w _ _ _).alloc _
  have b2 : VRow w0 (w.heap.size + 1 + 1) 25 [.int .i64 0, .int .i64 0, .slice none 0 0, .slice none 0 0] := by subst hw0; exact VRow.new2 w _ _ _ _
  have hB0 : RowKit.Below w.heap.size w w0 := by subst hw0; exact (((RowKit.Below.refl _ _).alloc (Nat.le_refl _) _).alloc (by simp) _).alloc (by simp; omega) _
  have HIN := hidI (hin.below hB0)
  have HBS := hidI (bsearchSw_any T.swaps s p2 c2 w0 (hin.below hB0) hl hs)
  have a0 := b0.at 0 rfl; have a1 := b0.at 1 rfl; have a2 := b0.at 2 rfl; have a3 := b0.at 3 rfl
  have e0 := b1.at 0 rfl; have e1 := b1.at 1 rfl; have e2 := b1.at 2 rfl
  clear hin
  go_enter Tryz.func28, Tryz.ntmps28
  go_upto_region 1 with fail
  rw [← hw0]
  clear hw0
  go_wp2_with fail
  refine HBS.out.mono ?_
  rintro e w1 ⟨pa, bo, rfl, hP, hB1⟩
  have t0 := b0.below hB1 b0.lt
  have t1 := b1.below hB1 b1.lt
  have t2 := b2.below hB1 b2.lt
  have HIN1 := hidI (HIN.out.below hB1)
  have HP := hidI hP
  have hpl := hP.1
  have x1 := hidI (hB0.trans (hB1.mono hB0.size))
  clear a0 a1 a2 a3 e0 e1 e2 b0 b1 b2 hB0 hB1 HIN HBS hP hs
  have a0 := t0.at 0 rfl; have a1 := t0.at 1 rfl; have a2 := t0.at 2 rfl; have a3 := t0.at 3 rfl
  have e0 := t1.at 0 rfl; have e1 := t1.at 1 rfl; have e2 := t1.at 2 rfl
  have z0 := t0.lt; have z1 := t1.lt; have z2 := t2.lt
  have HCL := hidI (fun W (hB : RowKit.Below w1.heap.size w1 W) => cloneSw_any T.swaps p2 c2 W (HIN1.out.below hB) hl)
  have k0 := t0.frozen 3
  go_upto_region 2 with fail
  go_region_with (first
      | (go_at_call 23; refine (HCL.out _ ?_).mono ?_; (first | exact below_dN (RowKit.Below.refl _ _) 1 | exact (below_dN (RowKit.Below.refl _ _) 1).alloc (Nat.le_refl _) _); rintro e wa ⟨va, rfl, hOa, hBa⟩; replace hOa := hidI hOa; have ta : VRow wa w.heap.size 25 [.int .i64 T.q, .int .i64 T.n, .slice p1 T.base.length c1, .slice p2 T.swaps.length c2] := (by first | exact (t0.dr ⟨1, rfl⟩).below hBa z0 | exact ((t0.dr ⟨1, rfl⟩).alloc _).below hBa (by simp; omega)); have tb : VRow wa (w.heap.size + 1) 53 [.int .i64 s.i, .int .i64 s.j, .string s.wd] := (by first | exact (t1.dr ⟨1, rfl⟩).below hBa z1 | exact ((t1.dr ⟨1, rfl⟩).alloc _).below hBa (by simp; omega)); have tc : VRow wa (w.heap.size + 1 + 1) 25 [.int .i64 0, .int .i64 0, .slice none 0 0, .slice none 0 0] := (by first | exact (t2.dr ⟨1, rfl⟩).below hBa z2 | exact ((t2.dr ⟨1, rfl⟩).alloc _).below hBa (by simp; omega)); have f0 := tb.at 0 rfl; have f1 := tb.at 1 rfl; have f2 := tb.at 2 rfl; have hBx : RowKit.Below w1.heap.size w1 wa := (by first | exact (below_dN (RowKit.Below.refl w1.heap.size w1) 1).trans hBa | exact ((below_dN (RowKit.Below.refl w1.heap.size w1) 1).alloc (Nat.le_refl _) _).trans (hBa.mono (by simp))))
      | (go_at_call 53; (with_reducible refine (insertSw_sg T.swaps s pa _ _ va _ (hOa.out.alloc _) ?_ ?_ ?_ hl hpl).mono ?_); (exact Nat.le_trans (RowKit.Below.size hBa) (by simp)); (exact VRow.new wa _ _); (exact fun e => absurd (hOa.out.lt _ e).2 (Nat.lt_irrefl _)); rintro e wb ⟨pr, mr, cr, rfl, hMb, hOb, hBb⟩; have ua := (ta.alloc (.cells #[.int .i64 s.i, .int .i64 s.j, .string s.wd] 53)).below hBb z0; have uc := (tc.alloc (.cells #[.int .i64 s.i, .int .i64 s.j, .string s.wd] 53)).below hBb z2; have g0 := ua.at 3 rfl; have g1 := ua.frozen 3; have hBy := (hBx.alloc hBx.size (.cells #[.int .i64 s.i, .int .i64 s.j, .string s.wd] 53)).trans (hBb.mono (Nat.le_refl _)))
      | (go_at_call 53; (with_reducible refine (insertSw_sg T.swaps s pa _ _ va _ hOa.out ?_ ?_ ?_ hl hpl).mono ?_); (exact RowKit.Below.size hBa); (exact (VRow.new w1.drew _ _).below hBa (by simp)); (exact fun e => absurd (hOa.out.lt _ e).1 (by simp)); rintro e wb ⟨pr, mr, cr, rfl, hMb, hOb, hBb⟩; have ua := ta.below hBb (by simp; omega); have uc := tc.below hBb (by simp; omega); have g0 := ua.at 3 rfl; have g1 := ua.frozen 3; have hBy := hBx.trans (hBb.mono (by simp)))
      | fail)
  all_goals
    have v3 := ua.set (i := 3) (.slice pr mr cr)
    have vc := uc.other (C := w.heap.size) (i := 3) (.slice pr mr cr) (by omega)
    have h0 := v3.at 0 rfl; have h1 := v3.at 1 rfl; have h2 := v3.at 2 rfl; have h3 := v3.at 3 rfl
    have k0 := vc.at 0 rfl; have k1 := vc.at 1 rfl; have k2 := vc.at 2 rfl; have k3 := vc.at 3 rfl
    have y0 := vc.frozen 0; have y1 := vc.frozen 1; have y2 := vc.frozen 2; have y3 := vc.frozen 3
    clear f0 f1 f2 g0 g1 a0 a1 a2 a3 e0 e1 e2
    go_wp2_with fail
    have r6 := VRow.set (i := 3) (.slice pr mr cr) (VRow.set (i := 2) (.slice p1 T.base.length c1) (VRow.set (i := 1) (.int .i64 T.n) (VRow.set (i := 0) (.int .i64 T.q) vc)))
    have n0 := r6.at 0 rfl; have n1 := r6.at 1 rfl; have n2 := r6.at 2 rfl; have n3 := r6.at 3 rfl
    have o6 := ownsRow_setCell_below (a := ⟨w.heap.size + 1 + 1, 3, none⟩) (ownsRow_setCell_below (a := ⟨w.heap.size + 1 + 1, 2, none⟩) (ownsRow_setCell_below (a := ⟨w.heap.size + 1 + 1, 1, none⟩) (ownsRow_setCell_below (a := ⟨w.heap.size + 1 + 1, 0, none⟩) (ownsRow_setCell_below (a := ⟨w.heap.size, 3, none⟩) hOb.out (by simp; omega) (.slice pr mr cr)) (by simp; omega) (.int .i64 T.q)) (by simp; omega) (.int .i64 T.n)) (by simp; omega) (.slice p1 T.base.length c1)) (by simp; omega) (.slice pr mr cr)
    have x6 : RowKit.Below w.heap.size w (((((wb.setCell ⟨w.heap.size, 3, none⟩ (.slice pr mr cr)).setCell ⟨w.heap.size + 1 + 1, 0, none⟩ (.int .i64 T.q)).setCell ⟨w.heap.size + 1 + 1, 1, none⟩ (.int .i64 T.n)).setCell ⟨w.heap.size + 1 + 1, 2, none⟩ (.slice p1 T.base.length c1)).setCell ⟨w.heap.size + 1 + 1, 3, none⟩ (.slice pr mr cr)) := (((((x1.out.trans (hBy.mono x1.out.size)).setCell (Nat.le_refl _) _).setCell (by show w.heap.size ≤ w.heap.size + 1 + 1; omega) _).setCell (by show w.heap.size ≤ w.heap.size + 1 + 1; omega) _).setCell (by show w.heap.size ≤ w.heap.size + 1 + 1; omega) _).setCell (by show w.heap.size ≤ w.heap.size + 1 + 1; omega) _
    refine bodyPost_ret (v := .agg #[.int .i64 T.q, .int .i64 T.n, .slice p1 T.base.length c1, .slice pr mr cr]) (by simp [results, Tryz.results28, go_sem, n0, n1, n2, n3]) rfl ?_
    have hMb := hMb.out
    subst hMb
    exact ⟨pr, cr, rfl, by rw [← insAt_W HP.out]; exact own_base o6 (Nat.le_trans x1.out.size (by simp)), x6⟩
end Go.Proofs.YtjpilmedlecdhaaGreat
namespace Go.Proofs.YtjpilmedlecdhaaGreat
open Go.RowKit Go.ChangeMaps Go.MapKept Go.Maps

/-- The entries' numbers. -/
def Bo (w : World) (b : Nat) : Prop := ∃ es clock, w.heap[b]? = some (.map es clock) ∧ (es.toList.map (·.born)).Nodup ∧ ∀ e ∈ es.toList, e.born < clock
theorem Bo.same {w w' : World} {b : Nat} (h : Bo w b) (hb : w'.heap[b]? = w.heap[b]?) : Bo w' b := by
  obtain ⟨es, clock, h1, h2⟩ := h
  exact ⟨es, clock, hb.trans h1, h2⟩
theorem Bo.made (w : World) : Bo (w.alloc (.map #[] 0)) w.heap.size := ⟨#[], 0, heap_alloc_new w _, by simp, by simp⟩
section
variable {α β : Type} {kv : α → Value} {ok : α → Prop} {vv : β → Value} {w : World} {b : Nat} {f : α → Option β} {P : Program} {k : TypeId}
/-- A map with its entries' numbers. -/
def MpB (kv : α → Value) (ok : α → Prop) (vv : β → Value) (w : World) (b : Nat) (f : α → Option β) : Prop := Mp kv ok vv w b f ∧ Bo w b
theorem MpB.same {w' : World} (h : MpB kv ok vv w b f) (hb : w'.heap[b]? = w.heap[b]?) : MpB kv ok vv w' b f := ⟨h.1.same hb, h.2.same hb⟩
theorem MpB.lt (h : MpB kv ok vv w b f) : b < w.heap.size := h.1.lt
theorem MpB.made (w : World) : MpB kv ok vv (w.alloc (.map #[] 0)) w.heap.size (fun _ => none) := ⟨Mp.made w, Bo.made w⟩
theorem MpB.congr {g : α → Option β} (h : MpB kv ok vv w b f) (e : ∀ a, f a = g a) : MpB kv ok vv w b g := ⟨h.1.congr e, h.2⟩
theorem MpB.store [DecidableEq α] {t e : TypeId} (h : MpB kv ok vv w b f) (K : KeyBy P k kv ok) (ht : P.underlying t = some (.map k e)) (a : α) (ha : ok a) (x : β) :
    ∃ w', (Instr.mapUpdate t (.map (some b)) (kv a) (vv x)).run P w = .ok () w' ∧ MpB kv ok vv w' b (mset f a x) ∧ w.mapTurned w' b := by
  obtain ⟨w', hrun, h2, h3⟩ := Mp.store (t := t) h.1 K ht a ha x
  refine ⟨w', hrun, ⟨h2, ?_⟩, h3⟩
  obtain ⟨es, clock, hb, hd, hr, hc⟩ := h.1
  obtain ⟨es', clock', hb', hbn, hbl⟩ := h.2
  rw [hb] at hb'; cases hb'
  obtain ⟨kl, hkey⟩ := K.reads a ha
  have hkeys : ∀ e ∈ es.toList, ∃ l, keyOf P k e.key = some l := fun e he => by
    obtain ⟨a', y, h1, h2, _⟩ := hr e he
    rw [h1]; exact K.reads a' h2
  rcases K.law.find w hkey es.toList hkeys with ⟨h1, _⟩ | ⟨j, e0, h1, h2', h3'⟩
  · have hr2 : (Instr.mapUpdate t (.map (some b)) (kv a) (vv x)).run P w = .ok () (setBlock w b (.map (es.push ⟨kv a, vv x, clock⟩) (clock + 1))) := by
      simp [Instr.mapUpdate, run_underlying ht, MapKept.run_getObj_map hb, K.law.check w false hkey, h1, MapKept.run_setObj_map _ hb, Result.andThen, setBlock]
    rw [hrun] at hr2
    cases hr2
    refine ⟨_, _, heap_setBlock_same hb _, ?_, ?_⟩
    · rw [Array.toList_push, List.map_append, List.nodup_append]
      refine ⟨hbn, by simp, ?_⟩
      intro x hx y hy
      simp at hy; subst hy
      obtain ⟨e, he, rfl⟩ := List.mem_map.1 hx
      have := hbl e he; omega
    · intro e he
      rw [Array.toList_push, List.mem_append, List.mem_singleton] at he
      rcases he with he | rfl
      · have := hbl e he; omega
      · show clock < clock + 1
        omega
  · have hj : es[j]? = some e0 := by simpa using h2'
    have hst := K.law.stays w hkey
    have hr2 : (Instr.mapUpdate t (.map (some b)) (kv a) (vv x)).run P w = .ok () (setBlock w b (.map (es.modify j (fun e' => { e' with key := kv a, val := vv x })) clock)) := by
      simp [Instr.mapUpdate, run_underlying ht, MapKept.run_getObj_map hb, K.law.check w false hkey, h1, hj, h3', hst, MapKept.run_setObj_map _ hb, Result.andThen, setBlock]
    rw [hrun] at hr2
    cases hr2
    have hlist : (es.modify j (fun e' => { e' with key := kv a, val := vv x })).toList = es.toList.set j { e0 with key := kv a, val := vv x } := by rw [Array.toList_modify, modify_eq_set _ _ _ _ h2']
    have hbm : (es.toList.set j { e0 with key := kv a, val := vv x }).map (·.born) = es.toList.map (·.born) := by
      rw [List.map_set]
      apply List.ext_getElem?
      intro i
      rw [List.getElem?_set]
      split
      · rename_i hi; subst hi
        have hjl : j < es.toList.length := (List.getElem?_eq_some_iff.1 h2').1
        rw [if_pos (by simpa using hjl), List.getElem?_map, h2']
        rfl
      · rfl
    refine ⟨_, _, heap_setBlock_same hb _, by rw [hlist, hbm]; exact hbn, ?_⟩
    intro e he
    have : e.born ∈ (es.toList.set j { e0 with key := kv a, val := vv x }).map (·.born) := by rw [← hlist]; exact List.mem_map_of_mem he
    rw [hbm] at this
    obtain ⟨e', he', hb'⟩ := List.mem_map.1 this
    rw [← hb']; exact hbl e' he'

/-- Block r ranges over the map in block b; ks: the keys that have come. -/
def RgA (kv : α → Value) (ok : α → Prop) (vv : β → Value) (w : World) (b r : Nat) (ks : List α) (f : α → Option β) : Prop :=
  ∃ (es : Array MapEntry) (clock : Nat) (seen : Array Nat) (vis : List MapEntry), w.heap[b]? = some (.map es clock) ∧ w.heap[r]? = some (.mapIter (some b) clock seen clock) ∧ (es.toList.map (·.born)).Nodup ∧ (∀ e ∈ es.toList, e.born < clock) ∧
    es.toList.Pairwise (fun x y => x.key ≠ y.key) ∧ (∀ e ∈ es.toList, ∃ s x, e.key = kv s ∧ ok s ∧ e.val = vv x ∧ f s = some x) ∧ (∀ s x, f s = some x → ∃ e ∈ es.toList, e.key = kv s) ∧
    ks.map kv = vis.map (·.key) ∧ seen.toList = vis.map (·.born) ∧ (∀ e ∈ vis, e ∈ es.toList) ∧ (∀ s ∈ ks, ok s)
/-- How many entries are to come. -/
def rgLe (w : World) (b r : Nat) : Nat := match w.heap[b]?, w.heap[r]? with
  | some (.map es _), some (.mapIter _ _ seen _) => (leftOf es seen).size
  | _, _ => 0
theorem rgLe_eq {w w' : World} {b r : Nat} (hb : w'.heap[b]? = w.heap[b]?) (hr : w'.heap[r]? = w.heap[r]?) : rgLe w' b r = rgLe w b r := by unfold rgLe; rw [hb, hr]
theorem RgA.same {w w' : World} {b r : Nat} {ks : List α} {f : α → Option β} (h : RgA kv ok vv w b r ks f) (hb : w'.heap[b]? = w.heap[b]?) (hr : w'.heap[r]? = w.heap[r]?) : RgA kv ok vv w' b r ks f := by
  obtain ⟨es, clock, seen, vis, h1, h2, h3⟩ := h
  exact ⟨es, clock, seen, vis, hb.trans h1, hr.trans h2, h3⟩
theorem RgA.lt {w : World} {b r : Nat} {ks : List α} {f : α → Option β} (h : RgA kv ok vv w b r ks f) : b < w.heap.size ∧ r < w.heap.size ∧ b ≠ r := by
  obtain ⟨es, clock, seen, vis, h1, h2, h3⟩ := h
  refine ⟨(Array.getElem?_eq_some_iff.1 h1).1, (Array.getElem?_eq_some_iff.1 h2).1, ?_⟩
  rintro rfl
  rw [h1] at h2; cases h2
theorem RgA.iter {w : World} {b r : Nat} {ks : List α} {f : α → Option β} (h : RgA kv ok vv w b r ks f) : ∃ o, w.heap[r]? = some o ∧ o.isCells = false ∧ o.isWalk = true := by
  obtain ⟨es, clock, seen, vis, h1, h2, h3⟩ := h
  exact ⟨_, h2, rfl, rfl⟩
theorem RgA.mapO {w : World} {b r : Nat} {ks : List α} {f : α → Option β} (h : RgA kv ok vv w b r ks f) : ∃ o, w.heap[b]? = some o ∧ o.isCells = false := by
  obtain ⟨es, clock, seen, vis, h1, h2, h3⟩ := h
  exact ⟨_, h1, rfl⟩
theorem RgA.map {w : World} {b r : Nat} {ks : List α} {f : α → Option β} (h : RgA kv ok vv w b r ks f) : Mp kv ok vv w b f := by
  obtain ⟨es, clock, seen, vis, h1, h2, h3, h4, h5, h6, h7, h8⟩ := h
  exact ⟨es, clock, h1, h5, h6, h7⟩
theorem RgA.mapB {w : World} {b r : Nat} {ks : List α} {f : α → Option β} (h : RgA kv ok vv w b r ks f) : MpB kv ok vv w b f := by
  obtain ⟨es, clock, seen, vis, h1, h2, h3, h4, h5, h6, h7, h8⟩ := h
  exact ⟨⟨es, clock, h1, h5, h6, h7⟩, es, clock, h1, h3, h4⟩
/-- The range begins. -/
theorem RgA.start {t e : TypeId} {w : World} {b : Nat} {f : α → Option β} (h : MpB kv ok vv w b f) (ht : P.underlying t = some (.map k e)) :
    ∃ w', (Instr.range t (.map (some b))).run P w = .ok (.pointer (some ⟨w.heap.size, 0, none⟩)) w' ∧ RgA kv ok vv w' b w.heap.size [] f ∧ w'.heap.size = w.heap.size + 1 ∧ w.grownBy w' none := by
  obtain ⟨es, clock, hb, hd, hr, hc⟩ := h.1
  obtain ⟨es', clock', hb', hbn, hbl⟩ := h.2
  rw [hb] at hb'; cases hb'
  refine ⟨_, run_range_map w t k _ b es clock ht hb, ⟨es, clock, #[], [], ?_, heap_alloc_new w _, hbn, hbl, hd, hr, hc, rfl, rfl, by simp, by simp⟩, World.size_alloc _ _, World.grownBy_alloc w _ none⟩
  · rw [Below.heap_alloc w _ b h.lt]; exact hb
theorem setB_at {w : World} {r : Nat} {o o' : Obj} (h : w.heap[r]? = some o) : (setBlock w r o').heap[r]? = some o' := by
  have := (Array.getElem?_eq_some_iff.1 h).1
  simp [setBlock, this]
theorem setB_ne {w : World} {r i : Nat} {o' : Obj} (h : i ≠ r) : (setBlock w r o').heap[i]? = w.heap[i]? := by
  have h' : r ≠ i := fun e => h e.symm
  simp [setBlock, Array.getElem?_setIfInBounds, h']
/-- The range's step. -/
theorem RgA.next {w : World} {b r : Nat} {ks : List α} {f : α → Option β} (h : RgA kv ok vv w b r ks f) (hinj : ∀ a a', ok a → ok a' → kv a = kv a' → a = a') (ty : TypeId) :
    ((∀ s y, ok s → f s = some y → s ∈ ks) ∧ (Instr.next (.pointer (some ⟨r, 0, none⟩)) false ty).run P w = .ok (.tuple #[.bool false]) w) ∨
    ∃ x y w', f x = some y ∧ x ∉ ks ∧ ok x ∧ (Instr.next (.pointer (some ⟨r, 0, none⟩)) false ty).run P w = .ok (.tuple #[.bool true, kv x, vv y]) w' ∧ RgA kv ok vv w' b r (ks ++ [x]) f ∧ rgLe w' b r < rgLe w b r ∧
      w.grownBy w' (some r) ∧ w'.heap.size = w.heap.size ∧ (Instr.entry (.pointer (some ⟨r, 0, none⟩))).run P w' = .ok (.tuple #[kv x, vv y]) w' := by
  have hbr := h.lt
  obtain ⟨es, clock, seen, vis, hb, hr, hbn, hbl, hd, hent, hcov, hks, hseen, hvis, hoks⟩ := h
  rcases run_next_at (P := P) w ty r b clock clock seen es clock hr hb hbl (Nat.le_refl _) with ⟨h0, hrun⟩ | ⟨e, he, w1, hw1, hrun⟩
  · refine .inl ⟨fun s y hos hs => ?_, hrun⟩
    obtain ⟨e, he, hk⟩ := hcov s y hs
    have hall := all_seen es seen h0 e he
    have hmem : e.born ∈ seen.toList := by simpa using hall
    rw [hseen] at hmem
    obtain ⟨e', he', hbe⟩ := List.mem_map.1 hmem
    have hee : e' = e := by
      have hi := List.mem_iff_getElem.1 (hvis e' he'); have hj := List.mem_iff_getElem.1 he
      obtain ⟨i, hil, hi⟩ := hi; obtain ⟨j, hjl, hj⟩ := hj
      have hij : i = j := by
        have hp := List.pairwise_iff_getElem.1 (show (es.toList.map (·.born)).Pairwise (· ≠ ·) from hbn)
        rcases Nat.lt_trichotomy i j with hlt | heq | hlt
        · exact absurd (by rw [List.getElem_map, List.getElem_map, hi, hj, hbe]) (hp i j (by simpa using hil) (by simpa using hjl) hlt)
        · exact heq
        · exact absurd (by rw [List.getElem_map, List.getElem_map, hi, hj, hbe]) (hp j i (by simpa using hjl) (by simpa using hil) hlt)
      subst hij
      rw [← hi, ← hj]
    subst hee
    have : kv s ∈ vis.map (·.key) := by rw [← hk]; exact List.mem_map_of_mem he'
    rw [← hks] at this
    obtain ⟨s', hs', e⟩ := List.mem_map.1 this
    have := hinj s' s (hoks s' hs') hos e
    rw [← this]; exact hs'
  · obtain ⟨hes, hns⟩ := mem_left he
    obtain ⟨x, y, k1, k2, k3, k4⟩ := hent e hes
    have hw1h : w1.heap = w.heap := by rcases hw1 with rfl | rfl <;> rfl
    have hr1 : w1.heap[r]? = some (.mapIter (some b) clock seen clock) := by rw [hw1h]; exact hr
    have hb2 : (setBlock w1 r (.mapIter (some b) clock (seen.push e.born) clock)).heap[b]? = some (.map es clock) := by
      rw [setB_ne (fun e => hbr.2.2 e)]; rw [hw1h]; exact hb
    have hr2 : (setBlock w1 r (.mapIter (some b) clock (seen.push e.born) clock)).heap[r]? = some (.mapIter (some b) clock (seen.push e.born) clock) := setB_at hr1
    refine .inr ⟨x, y, _, k4, ?_, k2, by rw [k1, k3] at hrun; exact hrun, ⟨es, clock, seen.push e.born, vis ++ [e], hb2, hr2, hbn, hbl, hd, hent, hcov, by simp [hks, k1], by simp [hseen], ?_, ?_⟩, ?_, ?_, ?_, ?_⟩
    · intro hx
      have : kv x ∈ vis.map (·.key) := by rw [← hks]; exact List.mem_map_of_mem hx
      obtain ⟨e', he', hk'⟩ := List.mem_map.1 this
      have hee : e' = e := by
        obtain ⟨i, hil, hi⟩ := List.mem_iff_getElem.1 (hvis e' he'); obtain ⟨j, hjl, hj⟩ := List.mem_iff_getElem.1 hes
        rcases Nat.lt_trichotomy i j with hlt | heq | hlt
        · exact absurd (by rw [hi, hj, hk', k1]) (List.pairwise_iff_getElem.1 hd i j hil hjl hlt)
        · subst heq; rw [← hi, ← hj]
        · exact absurd (by rw [hi, hj, hk', k1]) (List.pairwise_iff_getElem.1 hd j i hjl hil hlt)
      subst hee
      have hc : seen.contains e'.born = true := by
        have : e'.born ∈ seen.toList := by rw [hseen]; exact List.mem_map_of_mem he'
        simpa using this
      rw [hc] at hns; cases hns
    · intro e' he'
      rcases List.mem_append.1 he' with he' | he'
      · exact hvis e' he'
      · rw [List.mem_singleton.1 he']; exact hes
    · intro s hs
      rcases List.mem_append.1 hs with hs | hs
      · exact hoks s hs
      · rw [List.mem_singleton.1 hs]; exact k2
    · unfold rgLe
      rw [hb2, hr2, hb, hr]
      exact left_shrinks es seen e he
    · refine ⟨?_, ?_, ?_, ?_, ?_⟩
      all_goals first
        | (rcases hw1 with rfl | rfl <;> rfl)
        | skip
      · rw [show (setBlock w1 r (.mapIter (some b) clock (seen.push e.born) clock)).heap.size = w1.heap.size by simp [setBlock], hw1h]; exact Nat.le_refl _
      · intro i hi hne
        rw [setB_ne (fun e => hne (by rw [e])), hw1h]
    · rw [show (setBlock w1 r (.mapIter (some b) clock (seen.push e.born) clock)).heap.size = w1.heap.size by simp [setBlock], hw1h]
    · have := run_entry_at (P := P) (setBlock w1 r (.mapIter (some b) clock (seen.push e.born) clock)) r b clock seen es clock e hr2 hb2 hes hbn
      rw [k1, k3] at this
      exact this
end
end Go.Proofs.YtjpilmedlecdhaaGreat
namespace Go.Proofs.YtjpilmedlecdhaaGreat
open Go.RowKit Go.Shelf
attribute [local go_sem] Oper.semAt_some

/-- A map of the swaps, with its entries' numbers. -/
def SwB (l : List Sw) (w : World) (b : Nat) : Prop := MpB k2 ok2 Value.string w b (swapF l)
theorem MpB.alloc {α β : Type} {kv : α → Value} {ok : α → Prop} {vv : β → Value} {w : World} {b : Nat} {f : α → Option β} (h : MpB kv ok vv w b f) (o : Obj) : MpB kv ok vv (w.alloc o) b f := h.same (Below.heap_alloc w o b h.lt)
theorem SwB.look {T : Tb} (hf : fmd T = true) {w : World} {b : Nat} (h : SwB T.swaps w b) (i j : Int) (hi : (Lit.int .i64 i).wf = true) (hj : (Lit.int .i64 j).wf = true) :
    (Instr.lookup 67 (.map (some b)) (.agg #[.int .i64 i, .int .i64 j]) true).run Tryz.prog w = .ok (match swapW T.swaps i j with | some x => .tuple #[.string x, .bool true] | none => .tuple #[.string ⟨#[]⟩, .bool false]) w := by
  have := Mp.look h.1 key2 Tryz.underlying67 (zeroStr w) (i, j) ⟨hi, hj⟩ true
  rw [swapF_eq hf] at this
  cases hs : swapW T.swaps i j <;> rw [hs] at this <;> exact this

set_option maxHeartbeats 1000000 in
theorem lkPairsB_any (T : Tb) (p1 p2 : Option Addr) (c1 c2 : Nat) (w : World) (hp : Sg 3 w swE p2 T.swaps) (h2 : T.swaps.length ≤ 9223372036854775807) (hok : ∀ j (h : j < T.swaps.length), ok2 (T.swaps[j].i, T.swaps[j].j)) :
    Calls Tryz.prog 41 #[.agg #[.int .i64 T.q, .int .i64 T.n, .slice p1 T.base.length c1, .slice p2 T.swaps.length c2]] w fun e w' => e = .returned (.map (some (w.heap.size + 1))) ∧ SwB T.swaps w' (w.heap.size + 1) ∧ Below w.heap.size w w' := by
  have HO := hidI hok
  clear hok
  have hmm := @run_makeMap Tryz.prog
  go_enter Tryz.func41, Tryz.ntmps41
  go_wp2
  go_loopw [10] (fun iv wr => ∃ k : Nat, k ≤ T.swaps.length ∧ iv = .int .i64 k ∧ SwB (T.swaps.take k) wr (w.heap.size + 1) ∧ Below w.heap.size w wr) (fun iv _ => T.swaps.length - (intOf iv).toNat)
  case atStart =>
    refine ⟨0, by omega, rfl, ?_, ((Below.refl _ _).alloc (Nat.le_refl _) _).alloc (by simp) _⟩
    have h : SwB [] _ _ := MpB.made (kv := k2) (ok := ok2) (vv := Value.string) (w.alloc (.cells #[.int .i64 T.q, .int .i64 T.n, .slice p1 T.base.length c1, .slice p2 T.swaps.length c2] 25))
    rwa [World.size_alloc] at h
  case round =>
    obtain ⟨k, hk, rfl, hM, hB⟩ := hrel
    by_cases hlt : k < T.swaps.length
    · obtain ⟨b1, o1, rfl, hb1, e0, e1, e2⟩ := (hp.below hB).get3 k hlt rfl
      have HT := hidI (swapF_take T.swaps k hlt)
      have hok := HO.out k hlt
      obtain ⟨w1, hrun, hM1, hturn⟩ := MpB.store (t := 67) (hM.alloc (.cells #[.int .i64 T.swaps[k].i, .int .i64 T.swaps[k].j, .string T.swaps[k].wd] 53)) key2 Tryz.underlying67 (T.swaps[k].i, T.swaps[k].j) hok T.swaps[k].wd
      unfold k2 at hrun
      go_wp2
      go_roundw
      case rel => exact ⟨k + 1, by omega, by go_num, hM1.congr (fun x => (HT.out x).symm), (hB.alloc hB.size _).grown hturn.grown (Nat.le_trans hB.size (by simp)) (fun j e => by cases e; omega)⟩
      case measure => simp [intOf]; omega
    · obtain rfl : k = T.swaps.length := by omega
      rw [List.take_length] at hM
      go_wp2
      go_ret
      exact ⟨rfl, hM, hB⟩

/-! ### The sequence -/
abbrev SubN := {u : ByteArray // u.size ≤ 16}
def encN (u : SubN) : Array Value := #[.string u.1]
def fl1 (T : Tb) (i : Int) (k : Nat) : List ByteArray := ((List.range k).filter (fun (j : Nat) => frW T i (j : Int))).map (fun j => bget T.base j)
def fl2 (T : Tb) (i : Int) (k : Nat) : List ByteArray := ((T.swaps.take k).filter (fun s => frW T i s.i)).map (fun s => s.wd.extract 0 T.n.toNat)
theorem flw_eq (T : Tb) (i : Int) : flw T i = fl1 T i T.base.length ++ fl2 T i T.swaps.length := by unfold flw fl1 fl2; rw [List.take_length]
theorem fl1_succ (T : Tb) (i : Int) (k : Nat) : fl1 T i (k + 1) = fl1 T i k ++ (if frW T i (k : Int) = true then [bget T.base k] else []) := by
  unfold fl1
  rw [List.range_succ, List.filter_append, List.map_append]
  congr 1
  cases h : frW T i (k : Int) <;> simp [h]
theorem fl2_succ (T : Tb) (i : Int) (k : Nat) (h : k < T.swaps.length) : fl2 T i (k + 1) = fl2 T i k ++ (if frW T i T.swaps[k].i = true then [T.swaps[k].wd.extract 0 T.n.toNat] else []) := by
  unfold fl2
  rw [List.take_succ_eq_append_getElem h, List.filter_append, List.map_append]
  congr 1
  cases hh : frW T i T.swaps[k].i <;> simp [hh]
theorem fl1_len (T : Tb) (i : Int) (k : Nat) : (fl1 T i k).length ≤ k := by
  unfold fl1; rw [List.length_map]; exact Nat.le_trans (List.length_filter_le _ _) (by simp)
theorem fl2_len (T : Tb) (i : Int) (k : Nat) : (fl2 T i k).length ≤ k := by
  unfold fl2; rw [List.length_map]; exact Nat.le_trans (List.length_filter_le _ _) (by rw [List.length_take]; omega)
theorem fl1_sub {T : Tb} {i : Int} {k : Nat} (hk : k ≤ T.base.length) {u : ByteArray} (h : u ∈ fl1 T i k) : u ∈ flw T i := by
  rw [flw_eq]
  refine List.mem_append_left _ ?_
  unfold fl1 at *
  obtain ⟨j, hj, rfl⟩ := List.mem_map.1 h
  obtain ⟨h1, h2⟩ := List.mem_filter.1 hj
  exact List.mem_map.2 ⟨j, List.mem_filter.2 ⟨List.mem_range.2 (by have := List.mem_range.1 h1; omega), h2⟩, rfl⟩
theorem fl2_sub {T : Tb} {i : Int} {k : Nat} {u : ByteArray} (h : u ∈ fl2 T i k) : u ∈ flw T i := by
  rw [flw_eq]
  refine List.mem_append_right _ ?_
  unfold fl2 at *
  obtain ⟨s, hs, rfl⟩ := List.mem_map.1 h
  obtain ⟨h1, h2⟩ := List.mem_filter.1 hs
  exact List.mem_map.2 ⟨s, List.mem_filter.2 ⟨by rw [List.take_length]; exact List.mem_of_mem_take h1, h2⟩, rfl⟩
theorem pre_sub {T : Tb} {i : Int} {l : List ByteArray} {pre : List SubN} {x : SubN} (h1 : pre.map (·.1) ++ [x.1] = l) (h2 : ∀ u ∈ l, u ∈ flw T i) : ∀ u ∈ pre ++ [x], u.1 ∈ flw T i := fun u hu => by
  apply h2
  rw [← h1]
  rcases List.mem_append.1 hu with h | h
  · exact List.mem_append_left _ (List.mem_map_of_mem h)
  · rw [List.mem_singleton.1 h]; simp
/-- Words in memory, in a block below n. -/
def SlB (n : Nat) (w : World) (p : Option Addr) (l : List ByteArray) : Prop :=
  l = [] ∨ ∃ b off, p = some ⟨b, off, none⟩ ∧ b < n ∧ b < w.heap.size ∧ ∀ i (h : i < l.length), w.cell? ⟨b, off + i, none⟩ = some (.string l[i])
def SwpB (n : Nat) (w : World) (p : Option Addr) (l : List Sw) : Prop :=
  l = [] ∨ ∃ b off, p = some ⟨b, off, none⟩ ∧ b < n ∧ b < w.heap.size ∧ ∀ i (h : i < l.length) j, j < 3 → w.cell? ⟨b, off + i * 3 + j, none⟩ = (swE l[i])[j]?
theorem SlB.of {n : Nat} {w : World} {p : Option Addr} {l : List ByteArray} (h : Sl w Value.string p l) (hn : w.heap.size ≤ n) : SlB n w p l := by
  rcases h with h | ⟨b, off, h1, h2, h3⟩
  · exact .inl h
  · exact .inr ⟨b, off, h1, by omega, h2, h3⟩
theorem SlB.sl {n : Nat} {w : World} {p : Option Addr} {l : List ByteArray} (h : SlB n w p l) : Sl w Value.string p l := by
  rcases h with h | ⟨b, off, h1, _, h2, h3⟩
  · exact .inl h
  · exact .inr ⟨b, off, h1, h2, h3⟩
theorem lt_kept {n b : Nat} {w w' : World} (hk : ∀ i, i < n → w'.heap[i]? = w.heap[i]?) (h1 : b < n) (h2 : b < w.heap.size) : b < w'.heap.size := by
  have e := hk b h1
  rcases Nat.lt_or_ge b w'.heap.size with h' | h'
  · exact h'
  · rw [Array.getElem?_eq_none h', Array.getElem?_eq_getElem h2] at e; cases e
theorem SlB.kept {n : Nat} {w w' : World} {p : Option Addr} {l : List ByteArray} (h : SlB n w p l) (hk : ∀ i, i < n → w'.heap[i]? = w.heap[i]?) : SlB n w' p l := by
  rcases h with h | ⟨b, off, h1, h2, h3, h4⟩
  · exact .inl h
  · exact .inr ⟨b, off, h1, h2, lt_kept hk h2 h3, fun i hi => (World.cell?_of_block (w := w) (a := ⟨b, off + i, none⟩) (hk b h2)).trans (h4 i hi)⟩
theorem SwpB.of {n : Nat} {w : World} {p : Option Addr} {l : List Sw} (h : Sg 3 w swE p l) (hn : w.heap.size ≤ n) : SwpB n w p l := by
  rcases h with h | ⟨b, off, h1, h2, h3⟩
  · exact .inl h
  · exact .inr ⟨b, off, h1, by omega, h2, h3⟩
theorem SwpB.sg {n : Nat} {w : World} {p : Option Addr} {l : List Sw} (h : SwpB n w p l) : Sg 3 w swE p l := by
  rcases h with h | ⟨b, off, h1, _, h2, h3⟩
  · exact .inl h
  · exact .inr ⟨b, off, h1, h2, h3⟩
theorem SwpB.kept {n : Nat} {w w' : World} {p : Option Addr} {l : List Sw} (h : SwpB n w p l) (hk : ∀ i, i < n → w'.heap[i]? = w.heap[i]?) : SwpB n w' p l := by
  rcases h with h | ⟨b, off, h1, h2, h3, h4⟩
  · exact .inl h
  · exact .inr ⟨b, off, h1, h2, lt_kept hk h2 h3, fun i hi j hj => (World.cell?_of_block (w := w) (a := ⟨b, off + i * 3 + j, none⟩) (hk b h2)).trans (h4 i hi j hj)⟩
/-- What the sequence reads. -/
structure FB (n : Nat) (W : World) (T : Tb) (p1 p2 : Option Addr) (c1 c2 Bt Bm Bi mb : Nat) (i : Int) : Prop where
  tb : VRow W Bt 25 [.int .i64 T.q, .int .i64 T.n, .slice p1 T.base.length c1, .slice p2 T.swaps.length c2]
  mp : VRow W Bm 67 [.map (some mb)]
  ix : VRow W Bi 3 [.int .i64 i]
  base : SlB n W p1 T.base
  swaps : SwpB n W p2 T.swaps
  rd : SwB T.swaps W mb
  l1 : Bt < n
  l2 : Bm < n
  l3 : Bi < n
  l4 : mb < n
  sz : n ≤ W.heap.size
theorem FB.kept {n : Nat} {W W' : World} {T : Tb} {p1 p2 : Option Addr} {c1 c2 Bt Bm Bi mb : Nat} {i : Int} (h : FB n W T p1 p2 c1 c2 Bt Bm Bi mb i) (hk : ∀ j, j < n → W'.heap[j]? = W.heap[j]?) : FB n W' T p1 p2 c1 c2 Bt Bm Bi mb i where
  tb := (hk _ h.l1).trans h.tb
  mp := (hk _ h.l2).trans h.mp
  ix := (hk _ h.l3).trans h.ix
  base := h.base.kept hk
  swaps := h.swaps.kept hk
  rd := MpB.same h.rd (hk _ h.l4)
  l1 := h.l1
  l2 := h.l2
  l3 := h.l3
  l4 := h.l4
  sz := by
    have := lt_kept (b := n - 1) hk (by have := h.l1; omega) (by have := h.sz; have := h.l1; omega)
    omega
theorem FB.alloc {n : Nat} {W : World} {T : Tb} {p1 p2 : Option Addr} {c1 c2 Bt Bm Bi mb : Nat} {i : Int} (h : FB n W T p1 p2 c1 c2 Bt Bm Bi mb i) (o : Obj) : FB n (W.alloc o) T p1 p2 c1 c2 Bt Bm Bi mb i :=
  h.kept (fun j hj => Below.heap_alloc W o j (by have := h.sz; omega))
theorem FB.kx {n a b : Nat} {W W' : World} {T : Tb} {p1 p2 : Option Addr} {c1 c2 Bt Bm Bi mb : Nat} {i : Int} (h : FB n W T p1 p2 c1 c2 Bt Bm Bi mb i) (hk : KX a b W W') (h1 : n ≤ b) (h2 : n ≤ a) : FB n W' T p1 p2 c1 c2 Bt Bm Bi mb i :=
  h.kept (fun j hj => hk j (by omega) (by omega))

set_option maxHeartbeats 1000000 in
theorem following_in (F : Fence) (n : Nat) (hf : F.fn 55) (hro : F.round = none) (T : Tb) (p1 p2 : Option Addr) (c1 c2 mb : Nat) (i : Int) (w : World) :
    CallsIn F n Tryz.prog 55 #[.agg #[.int .i64 T.q, .int .i64 T.n, .slice p1 T.base.length c1, .slice p2 T.swaps.length c2], .map (some mb), .int .i64 i] w fun e w' =>
      e = .returned (.func (.func 78) #[] #[.pointer (some ⟨w.heap.size, 0, none⟩), .pointer (some ⟨w.heap.size + 1, 0, none⟩), .pointer (some ⟨w.heap.size + 1 + 1, 0, none⟩)]) ∧
      w' = ((w.alloc (.cells #[.int .i64 T.q, .int .i64 T.n, .slice p1 T.base.length c1, .slice p2 T.swaps.length c2] 25)).alloc (.cells #[.map (some mb)] 67)).alloc (.cells #[.int .i64 i] 3) := by
  refine callsIn_of_wp Tryz.func55 rfl hf ?_ hro
  simp only [Tryz.ntmps55, List.size_toArray, List.length_cons, List.length_nil, Nat.reduceAdd, Nat.reduceSub, Array.replicate_succ, Array.replicate_zero, List.push_toArray, List.append_toArray, List.nil_append, List.cons_append]
  gi_wp2
  go_ret
  exact ⟨rfl, rfl⟩

set_option maxRecDepth 100000 in
set_option maxHeartbeats 4000000 in
theorem following1_in (F : Fence) (n : Nat) (hf : F.fn 78) (hro : F.round = none) (hn : 1 ≤ n) (l a b m Bt Bm Bi mb : Nat) (T : Tb) (i : Int) (p1 p2 : Option Addr) (c1 c2 : Nat) (hfm : fmd T = true) (hi : 0 ≤ i ∧ i ≤ 100) (J Jx : List SubN → World → Prop)
    (hA : ∀ pre W o, J pre W → J pre (W.alloc o))
    (hY : ∀ pre x W, J pre W → pre.length < T.base.length + T.swaps.length → YieldAt F (n - 1) Tryz.prog l (encN x) W fun e W' =>
      (e = .returned (.bool true) ∧ J (pre ++ [x]) W' ∧ KX a b W W') ∨ (e = .returned (.bool false) ∧ Jx (pre ++ [x]) W'))
    (W : World) (hma : m ≤ a) (hmb : m ≤ b) (hFB : FB m W T p1 p2 c1 c2 Bt Bm Bi mb i) (h0 : J [] W) :
    CallsIn F n Tryz.prog 78 #[.func (.yield l) #[] #[], .pointer (some ⟨Bt, 0, none⟩), .pointer (some ⟨Bm, 0, none⟩), .pointer (some ⟨Bi, 0, none⟩)] W fun e W' => (∃ v, e = .returned v) ∧
      ((∃ ys : List SubN, ys.map (·.1) = flw T i ∧ J ys W') ∨ (∃ pre : List SubN, (∀ u ∈ pre, u.1 ∈ flw T i) ∧ Jx pre W')) := by
  have hN := pre_all (fmd_split hfm).1
  refine callsIn_of_wp Tryz.func78 rfl hf ?_ hro
  simp only [Tryz.ntmps78, List.size_toArray, List.length_cons, List.length_nil, Nat.reduceAdd, Nat.reduceSub, Array.replicate_succ, Array.replicate_zero, List.push_toArray, List.append_toArray, List.nil_append, List.cons_append]
  have f2 := hFB.tb.at 2 rfl
  gi_wp2
  clear f2
  gi_loopw [16] (fun iv wr => ∃ (k : Nat) (pre : List SubN), k ≤ T.base.length ∧ iv = .int .i64 k ∧ Hid (pre.map (·.1) = fl1 T i k) ∧ J pre wr ∧ FB m wr T p1 p2 c1 c2 Bt Bm Bi mb i) (fun iv _ => T.base.length - (intOf iv).toNat)
  case atStart => exact ⟨0, [], Nat.zero_le _, rfl, rfl, h0, hFB⟩
  case round =>
    clear hFB h0
    obtain ⟨k, pre, hk, rfl, hp, hJs, hfb⟩ := hrel
    by_cases hlt : k < T.base.length
    · have hltI : (k : Int) < (T.base.length : Int) := by omega
      have hpl : pre.length < T.base.length + T.swaps.length := by
        have := congrArg List.length hp.out
        rw [List.length_map] at this
        have := fl1_len T i k
        omega
      obtain ⟨b3, o3, rfl, hb3, hc3⟩ := hfb.base.sl.get k hlt
      have e0 := hc3 k hlt
      have m0 := hfb.mp.at 0 rfl; have i0 := hfb.ix.at 0 rfl
      have hlk := SwB.look hfm hfb.rd i (k : Int) (WalkArith.wf_i64 (by omega)) (WalkArith.wf_i64 (by omega))
      have hsz := base_sz hfm k hlt
      rw [bget_eq _ _ hlt] at hsz
      have HN := hidI (fl1_succ T i k)
      have HFR : Hid (frW T i (k : Int) = (swapW T.swaps i (k : Int)).isNone) := rfl
      have HBG := hidI (bget_eq T.base k hlt)
      rw [HBG.out] at HN
      clear hc3
      generalize swapW T.swaps i (k : Int) = sw at *
      generalize T.base[k] = x at *
      have HY := hidI (hY pre ⟨x, by omega⟩ wr hJs hpl)
      cases sw with
      | none =>
        have HN1 : Hid (fl1 T i (k + 1) = fl1 T i k ++ [x]) := by rw [Hid, HN.out, HFR.out]; simp
        obtain ⟨fn, tmps, assign, body, hy, hR⟩ := HY.out
        unfold encN at hy
        simp only at hy hlk
        gi_wp2
        refine hR.mono ?_
        rintro e W3 (⟨rfl, hJ3, hk3⟩ | ⟨rfl, hJx3⟩)
        · gi_wp2
          go_roundw
          case rel => exact ⟨k + 1, _, by omega, by go_num, by unfold Hid; rw [HN1.out, ← hp.out, List.map_append]; rfl, hJ3, hfb.kx hk3 hmb hma⟩
          case measure => simp [intOf]; omega
        · gi_wp2
          refine bodyPost_ret (results_none rfl _ _ _) rfl ?_
          exact ⟨⟨_, rfl⟩, .inr ⟨_, pre_sub (by rw [hp.out]; exact HN1.out.symm) (fun u hu => fl1_sub (by omega) hu), hJx3⟩⟩
      | some y =>
        have HN1 : Hid (fl1 T i (k + 1) = fl1 T i k) := by rw [Hid, HN.out, HFR.out]; simp
        simp only at hlk
        gi_wp2
        rename_i K1 hK1 x1 h1 w1 e1
        refine ⟨fun f hf => (by cases hf), hK1 _ _ ?_⟩
        clear e1
        gi_wp2
        go_roundw
        case rel => exact ⟨k + 1, _, by omega, by go_num, by unfold Hid; rw [HN1.out, ← hp.out], hJs, hfb⟩
        case measure => simp [intOf]; omega
    · obtain rfl : k = T.base.length := by omega
      have hltI : ¬ (T.base.length : Int) < (T.base.length : Int) := by omega
      have f3 := hfb.tb.at 3 rfl
      gi_wp2
      clear f3
      gi_loopw [41] (fun iv wr => ∃ (k : Nat) (pre : List SubN), k ≤ T.swaps.length ∧ iv = .int .i64 k ∧ Hid (pre.map (·.1) = fl1 T i T.base.length ++ fl2 T i k) ∧ J pre wr ∧ FB m wr T p1 p2 c1 c2 Bt Bm Bi mb i) (fun iv _ => T.swaps.length - (intOf iv).toNat)
      case atStart => exact ⟨0, pre, Nat.zero_le _, rfl, by unfold Hid; rw [hp.out]; simp [fl2], hJs, hfb⟩
      case round =>
        clear hfb hJs hp
        obtain ⟨k, pre, hk, rfl, hp, hJs, hfb⟩ := hrel
        by_cases hlt : k < T.swaps.length
        · have hltI : (k : Int) < (T.swaps.length : Int) := by omega
          have hpl : pre.length < T.base.length + T.swaps.length := by
            have := congrArg List.length hp.out
            rw [List.length_map, List.length_append] at this
            have := fl1_len T i T.base.length
            have := fl2_len T i k
            omega
          obtain ⟨b3, o3, rfl, hb3, e0, e1, e2⟩ := hfb.swaps.sg.get3 k hlt rfl
          have hin := swaps_in hfm (List.getElem_mem hlt)
          have hsz := swap_size hfm k hlt
          have HN := hidI (fl2_succ T i k hlt)
          generalize T.swaps[k] = s at *
          have hfA := hfb.alloc (.cells #[.int .i64 s.i, .int .i64 s.j, .string s.wd] 53)
          have hJA := hA pre wr (.cells #[.int .i64 s.i, .int .i64 s.j, .string s.wd] 53) hJs
          have m0 := hfA.mp.at 0 rfl; have i0 := hfA.ix.at 0 rfl; have t1 := hfA.tb.at 1 rfl
          have hlk := SwB.look hfm hfA.rd i s.i (WalkArith.wf_i64 (by omega)) (WalkArith.wf_i64 (by omega))
          have HFR : Hid (frW T i s.i = (swapW T.swaps i s.i).isNone) := rfl
          generalize swapW T.swaps i s.i = sw at *
          obtain ⟨nn, hnn⟩ := Int.eq_ofNat_of_zero_le (show 0 ≤ T.n by omega)
          have hn1 : (0 : Int) ≤ T.n := by omega
          have hn2 : T.n ≤ (s.wd.size : Int) := by omega
          have hez : (s.wd.extract 0 T.n.toNat).size ≤ 16 := by simp; omega
          have HY := hidI (hY pre ⟨s.wd.extract 0 T.n.toNat, hez⟩ _ hJA hpl)
          clear hnn
          cases sw with
          | none =>
            have HN1 : Hid (fl2 T i (k + 1) = fl2 T i k ++ [s.wd.extract 0 T.n.toNat]) := by rw [Hid, HN.out, HFR.out]; simp
            obtain ⟨fn, tmps, assign, body, hy, hR⟩ := HY.out
            unfold encN at hy
            simp only at hy hlk
            gi_wp2
            refine hR.mono ?_
            rintro e W3 (⟨rfl, hJ3, hk3⟩ | ⟨rfl, hJx3⟩)
            · gi_wp2
              go_roundw
              case rel => exact ⟨k + 1, _, by omega, by go_num, by unfold Hid; rw [HN1.out, ← List.append_assoc, ← hp.out, List.map_append]; rfl, hJ3, hfA.kx hk3 hmb hma⟩
              case measure => simp [intOf]; omega
            · gi_wp2
              refine bodyPost_ret (results_none rfl _ _ _) rfl ?_
              exact ⟨⟨_, rfl⟩, .inr ⟨_, pre_sub (l := fl1 T i T.base.length ++ fl2 T i (k + 1)) (by rw [hp.out, HN1.out, List.append_assoc]) (fun u hu => by
                rcases List.mem_append.1 hu with h | h
                · exact fl1_sub (Nat.le_refl _) h
                · exact fl2_sub h), hJx3⟩⟩
          | some y =>
            have HN1 : Hid (fl2 T i (k + 1) = fl2 T i k) := by rw [Hid, HN.out, HFR.out]; simp
            simp only at hlk
            gi_wp2
            rename_i K1 hK1 x1 h1 w1 e1
            refine ⟨fun f hf => (by cases hf), hK1 _ _ ?_⟩
            clear e1
            gi_wp2
            go_roundw
            case rel => exact ⟨k + 1, _, by omega, by go_num, by unfold Hid; rw [HN1.out, ← hp.out], hJA, hfA⟩
            case measure => simp [intOf]; omega
        · obtain rfl : k = T.swaps.length := by omega
          have hltI : ¬ (T.swaps.length : Int) < (T.swaps.length : Int) := by omega
          gi_wp2
          go_end0
          exact ⟨⟨_, rfl⟩, .inl ⟨_, by rw [flw_eq]; exact hp.out, hJs⟩⟩

/-- The sequence, as the law of the loop takes it. -/
theorem following_stops (F : Fence) (n : Nat) (hf : F.fn 78) (hro : F.round = none) (hn : 1 ≤ n) (a b m Bt Bm Bi mb : Nat) (T : Tb) (i : Int) (p1 p2 : Option Addr) (c1 c2 : Nat) (hfm : fmd T = true) (hi : 0 ≤ i ∧ i ≤ 100) (w : World)
    (hma : m ≤ a) (hmb : m ≤ b) (hFB : FB m w T p1 p2 c1 c2 Bt Bm Bi mb i) :
    SeqStopsK F n Tryz.prog 78 #[.pointer (some ⟨Bt, 0, none⟩), .pointer (some ⟨Bm, 0, none⟩), .pointer (some ⟨Bi, 0, none⟩)] encN (KX a b) (fun ys => ys.map (·.1) = flw T i) (fun pre => ∀ u ∈ pre, u.1 ∈ flw T i) (T.base.length + T.swaps.length) w := fun l J Jx W hW hJ _ hY h0 =>
  following1_in F n hf hro hn l a b m Bt Bm Bi mb T i p1 p2 c1 c2 hfm hi J Jx (fun pre W o h => hJ pre W _ none h (World.grownBy_alloc W o none) (fun r e => by cases e)) hY W hma hmb (hFB.kept (fun j hj => hW.block j (by have := hFB.sz; omega))) h0
end Go.Proofs.YtjpilmedlecdhaaGreat
namespace Go.Proofs.YtjpilmedlecdhaaGreat
open Go.RowKit Go.Shelf Go.ChangeMaps Go.MapKept Go.Maps
attribute [local go_sem] Oper.semAt_some

/-! ### The words of the swaps, as the map holds them -/
def takF (S : List Sw) (ks : List (Int × Int)) (u : ByteArray) : Option Bool := if ks.any (fun x => decide (swapF S x = some u)) = true then some true else none
theorem takF_nil (S : List Sw) (u : ByteArray) : takF S [] u = none := rfl
theorem takF_snoc {S : List Sw} {ks : List (Int × Int)} {x : Int × Int} {y : ByteArray} (h : swapF S x = some y) (u : ByteArray) : mset (takF S ks) y true u = takF S (ks ++ [x]) u := by
  unfold mset takF
  rw [List.any_append]
  by_cases e : u = y
  · subst e; simp [h]
  · have : decide (swapF S x = some u) = false := decide_eq_false (fun e' => e (by rw [h] at e'; cases e'; rfl))
    rw [List.any_cons, List.any_nil, this, Bool.or_false, Bool.or_false, if_neg e]
theorem swapW_at {T : Tb} (hf : fmd T = true) {s : Sw} (hs : s ∈ T.swaps) : swapW T.swaps s.i s.j = some s.wd := by
  unfold swapW
  cases h : T.swaps.find? (fun x => decide (x.i = s.i) && decide (x.j = s.j)) with
  | none =>
    have := List.find?_eq_none.1 h s hs
    simp at this
  | some x =>
    have hm := List.mem_of_find?_eq_some h
    have hp := List.find?_some h
    simp only [Bool.and_eq_true, decide_eq_true_eq] at hp
    have hss : allB T.swaps.length (sOk T.base.length T.swaps) = true := (fmd_split hf).2.1
    rw [swap_uniq hss hm hs hp.1 hp.2]; rfl
theorem takF_all {T : Tb} (hf : fmd T = true) {ks : List (Int × Int)} (hk : ∀ x y, ok2 x → swapF T.swaps x = some y → x ∈ ks) (u : ByteArray) : (takF T.swaps ks u).getD false = tkn T u := by
  have key : ks.any (fun x => decide (swapF T.swaps x = some u)) = tkn T u := by
    unfold tkn
    rw [Bool.eq_iff_iff, List.any_eq_true, List.any_eq_true]
    constructor
    · rintro ⟨⟨i, j⟩, _, hx⟩
      have hx := of_decide_eq_true hx
      rw [swapF_eq hf] at hx
      obtain ⟨k, hk, _, _, e⟩ := swapW_mem hx
      exact ⟨_, List.getElem_mem hk, eqb_t e⟩
    · rintro ⟨s, hs, he⟩
      have e := eqb_iff.1 he
      have hx : swapF T.swaps (s.i, s.j) = some u := by rw [swapF_eq hf, swapW_at hf hs, e]
      have hin := swaps_in hf hs
      have hN := pre_all (fmd_split hf).1
      exact ⟨(s.i, s.j), hk _ _ ⟨WalkArith.wf_i64 (by simp; omega), WalkArith.wf_i64 (by simp; omega)⟩ hx, decide_eq_true hx⟩
  unfold takF
  rw [key]
  cases tkn T u <;> rfl
/-- The map of what is taken. -/
def TkM (T : Tb) (w : World) (b : Nat) : Prop := ∃ f : ByteArray → Option Bool, Mp Value.string okS Value.bool w b f ∧ ∀ u, (f u).getD false = tkn T u
theorem TkM.same {T : Tb} {w w' : World} {b : Nat} (h : TkM T w b) (hb : w'.heap[b]? = w.heap[b]?) : TkM T w' b := by
  obtain ⟨f, h1, h2⟩ := h
  exact ⟨f, h1.same hb, h2⟩
theorem TkM.look {T : Tb} {w : World} {b : Nat} (h : TkM T w b) (u : ByteArray) (hu : u.size ≤ maxLen) : (Instr.lookup 94 (.map (some b)) (.string u) false).run Tryz.prog w = .ok (.bool (tkn T u)) w := by
  obtain ⟨f, h1, h2⟩ := h
  have := h1.look (t := 94) keyS Tryz.underlying94 (z := .bool false) (by kernel_rfl) u hu false
  rw [← h2 u]
  cases hf : f u <;> rw [hf] at this <;> exact this
theorem TkM.lt {T : Tb} {w : World} {b : Nat} (h : TkM T w b) : b < w.heap.size := by obtain ⟨f, h1, _⟩ := h; exact h1.lt

theorem ownFrom_keepsR {β : Type} (W0 : World) : OwnFrom W0.heap.size (fun (_ : β) W => KeepsOthers W0 W) := fun _ X Y row hs hg hr =>
  ⟨Nat.le_trans hs.size hg.size, fun i o hi ho => by
    have hlt := (Array.getElem?_eq_some_iff.1 hi).1
    exact (hg.block i (Nat.lt_of_lt_of_le hlt hs.size) (fun e => by have := (hr i e.symm).1; omega)).trans (hs.same i o hi ho)⟩
theorem ownFrom_kxR {β : Type} {a : Nat} (W0 : World) : OwnFrom W0.heap.size (fun (_ : β) W => W0.heap.size ≤ W.heap.size ∧ KX a W0.heap.size W0 W) := fun _ X Y row hs hg hr =>
  ⟨Nat.le_trans hs.1 hg.size, fun i h1 h2 => (hg.block i (by have := hs.1; omega) (fun e => by have := (hr i e.symm).1; omega)).trans (hs.2 i h1 h2)⟩
/-! ### Readable up to an input -/
def rdTo (T : Tb) (k : Nat) : Bool := (List.range k).all (fun (i : Nat) => (flw T (i : Int)).all (fun b => !tkn T (bget T.base i ++ b)))
theorem rdTo_succ (T : Tb) (k : Nat) : rdTo T (k + 1) = (rdTo T k && (flw T (k : Int)).all (fun b => !tkn T (bget T.base k ++ b))) := by simp [rdTo, List.range_succ]
theorem rdTo_all (T : Tb) : rdTo T T.base.length = rdbl T := rfl
/-- No block that has come makes a word that is taken. -/
def clrL (T : Tb) (x : ByteArray) (pre : List SubN) : Bool := pre.all (fun u => !tkn T (x ++ u.1))
theorem clr_flw {T : Tb} {x : ByteArray} {i : Int} {ys : List SubN} (h : ys.map (·.1) = flw T i) : (flw T i).all (fun b => !tkn T (x ++ b)) = clrL T x ys := by
  rw [← h]; unfold clrL; rw [List.all_map]; rfl
theorem rd_false {T : Tb} {k : Nat} (hk : k < T.base.length) {u : ByteArray} (hu : u ∈ flw T (k : Int)) (ht : tkn T (bget T.base k ++ u) = true) : rdbl T = false := by
  rw [Bool.eq_false_iff]
  intro h
  have h1 := List.all_eq_true.1 h k (List.mem_range.2 hk)
  have h2 := List.all_eq_true.1 h1 u hu
  rw [ht] at h2; cases h2
/-- Where the second loop stands. -/
def RdI (T : Tb) (p1 p2 : Option Addr) (c1 c2 : Nat) (w : World) (m mb tb tc k : Nat) (a : Act) (W : World) : Prop :=
  ∃ (ds : List Deferred) (u5 u6 u7 u8 u9 u10 u11 u12 u13 u14 u15 u16 u17 u18 u19 u20 u21 u25 u26 u27 u28 u29 u30 u31 u32 u33 u34 u35 u36 u37 u38 u39 : Value), a = { tmps := #[(.agg #[.int .i64 T.q, .int .i64 T.n, .slice p1 T.base.length c1, .slice p2 T.swaps.length c2]), (.pointer (some ⟨w.heap.size, 0, none⟩)), (.pointer (some ⟨w.heap.size + 1, 0, none⟩)), (.map (some mb)), (.pointer (some ⟨tc, 0, none⟩)), u5, u6, u7, u8, u9, u10, u11, u12, u13, u14, u15, u16, u17, u18, u19, u20, u21, (.slice p1 T.base.length c1), (.int .i64 T.base.length), (.int .i64 k), u25, u26, u27, u28, u29, u30, u31, u32, u33, u34, u35, u36, u37, u38, u39], defers := ds } ∧ k ≤ T.base.length ∧ rdTo T k = true ∧
    VRow W w.heap.size 25 [.int .i64 T.q, .int .i64 T.n, .slice p1 T.base.length c1, .slice p2 T.swaps.length c2] ∧ VRow W (w.heap.size + 1) 4 [.bool false] ∧ VRow W tc 94 [.map (some tb)] ∧ TkM T W tb ∧ SwB T.swaps W mb ∧ SlB m W p1 T.base ∧ SwpB m W p2 T.swaps ∧ Marks m W ds ∧ RowKit.Below w.heap.size w W ∧ m ≤ W.heap.size
def rdmu (T : Tb) (a : Act) : Nat := T.base.length - (intOf (a.tmps.getD 24 undef)).toNat

set_option maxRecDepth 100000 in
set_option maxHeartbeats 4000000 in
theorem lkReadable_in (T : Tb) (p1 p2 : Option Addr) (c1 c2 : Nat) (w : World) (hT : TbIn w T p1 p2 c1 c2) (hf : fmd T = true) :
    CallsIn Fence.wide 9 Tryz.prog 30 #[.agg #[.int .i64 T.q, .int .i64 T.n, .slice p1 T.base.length c1, .slice p2 T.swaps.length c2]] w fun e w' => e = .returned (.bool (rdbl T)) ∧ RowKit.Below w.heap.size w w' := by
  have HT := hidI hT
  have hN := pre_all (fmd_split hf).1
  have hmm := @run_makeMap Tryz.prog
  obtain ⟨w0, hw0⟩ : ∃ w0, w0 = (w.alloc (.cells #[.int .i64 T.q, .int .i64 T.n, .slice p1 T.base.length c1, .slice p2 T.swaps.length c2] 25)).alloc (.cells #[.bool false] 4) := ⟨_, rfl⟩
  have b0 : VRow w0 w.heap.size 25 [.int .i64 T.q, .int .i64 T.n, .slice p1 T.base.length c1, .slice p2 T.swaps.length c2] := by subst hw0; exact (VRow.new w _ _).alloc _
  have b1 : VRow w0 (w.heap.size + 1) 4 [.bool false] := by subst hw0; exact VRow.new1 w _ _ _
  have hB0 : RowKit.Below w.heap.size w w0 := by subst hw0; exact ((RowKit.Below.refl _ _).alloc (Nat.le_refl _) _).alloc (by simp) _
  have a0 := b0.at 0 rfl; have a1 := b0.at 1 rfl; have a2 := b0.at 2 rfl; have a3 := b0.at 3 rfl
  clear hT
  refine callsIn_of_wp_marks Tryz.func30 rfl trivial ?_ rfl
  simp only [Tryz.ntmps30, List.size_toArray, List.length_cons, List.length_nil, Nat.reduceAdd, Nat.reduceSub, Array.replicate_succ, Array.replicate_zero, List.push_toArray, List.append_toArray, List.nil_append, List.cons_append]
  gi_wp2_with (refine ⟨trivial, ?_⟩; gi_at_call 41)
  rw [← hw0]
  clear hw0 a0 a1 a2 a3
  refine (callsIn_wide.2 (lkPairsB_any T p1 p2 c1 c2 w0 (HT.out.swaps.below hB0) HT.out.l2 (swaps_ok2 hf))).mono ?_
  rintro e w1 ⟨rfl, hSw, hB1⟩
  have x1 := hB0.trans (hB1.mono hB0.size)
  have d0 := b0.below hB1 b0.lt
  have d1 := b1.below hB1 b1.lt
  obtain ⟨mb, hmb⟩ : ∃ mb, mb = w0.heap.size + 1 := ⟨_, rfl⟩
  rw [← hmb] at hSw ⊢
  clear b0 b1 hB0 hB1 hmb
  have hmbl := hSw.lt
  have hzz := d1.lt
  have hM0 : Mp Value.string okS Value.bool ((w1.alloc (.map #[] 0)).alloc (.cells #[.map (some w1.heap.size)] 94)) w1.heap.size (takF T.swaps []) := ((Mp.made w1).alloc _).congr (fun _ => rfl)
  have tc0 : VRow ((w1.alloc (.map #[] 0)).alloc (.cells #[.map (some w1.heap.size)] 94)) (w1.heap.size + 1) 94 [.map (some w1.heap.size)] := VRow.new1 w1 _ _ _
  have hS0 : SwB T.swaps ((w1.alloc (.map #[] 0)).alloc (.cells #[.map (some w1.heap.size)] 94)) mb := (MpB.alloc hSw _).alloc _
  have x2 : RowKit.Below w.heap.size w ((w1.alloc (.map #[] 0)).alloc (.cells #[.map (some w1.heap.size)] 94)) := (x1.alloc x1.size _).alloc (by simp; have := x1.size; omega) _
  have d0' := (d0.alloc (.map #[] 0)).alloc (.cells #[.map (some w1.heap.size)] 94)
  have d1' := (d1.alloc (.map #[] 0)).alloc (.cells #[.map (some w1.heap.size)] 94)
  obtain ⟨W0, hrg, hR0, hs0, hg0⟩ := RgA.start (P := Tryz.prog) (t := 67) hS0 Tryz.underlying67
  have hzs : ((w1.alloc (.map #[] 0)).alloc (.cells #[.map (some w1.heap.size)] 94)).heap.size = w1.heap.size + 2 := by simp
  rw [hzs] at hR0 hs0 hrg
  have tc1 := tc0.grown hg0 (by simp)
  have hM1 : Mp Value.string okS Value.bool W0 w1.heap.size (takF T.swaps []) := hM0.kept hg0 (by simp)
  have hB1 : RowKit.Below w.heap.size w W0 := x2.grown hg0 x2.size (fun j e => by cases e)
  have e0 := d0'.grown hg0 (by simp)
  have e1 := d1'.grown hg0 (by simp)
  have hZW := hidI hs0
  clear hSw d0 d1 x1 hM0 tc0 hS0 x2 d0' d1' hg0 hzs hs0
  gi_wp2
  clear hrg
  gi_loopw [6] (fun _ wr => ∃ ks : List (Int × Int), RgA k2 ok2 Value.string wr mb (w1.heap.size + 2) ks (swapF T.swaps) ∧ Mp Value.string okS Value.bool wr w1.heap.size (takF T.swaps ks) ∧ VRow wr (w1.heap.size + 1) 94 [.map (some w1.heap.size)] ∧ VRow wr w.heap.size 25 [.int .i64 T.q, .int .i64 T.n, .slice p1 T.base.length c1, .slice p2 T.swaps.length c2] ∧ VRow wr (w.heap.size + 1) 4 [.bool false] ∧ RowKit.Below w.heap.size w wr) (fun _ W => rgLe W mb (w1.heap.size + 2))
  case atStart => exact ⟨[], hR0, hM1, tc1, e0, e1, hB1⟩
  case round =>
    clear hR0 hM1 tc1 e0 e1 hB1
    obtain ⟨ks, hR, hM, tc, e0, e1, hB⟩ := hrel
    have hRl := hR.lt
    rcases hR.next (P := Tryz.prog) key2.inj 0 with ⟨hall, hrun⟩ | ⟨x, y, W1, hfx, hxk, hxo, hrun, hR1, hlt1, hg1, hsz1, hen⟩
    · have hTK : TkM T wr w1.heap.size := ⟨_, hM, fun u => takF_all hf (fun x y hx hxy => hall x y hx hxy) u⟩
      have f2 := e0.at 2 rfl
      have hSw := hR.mapB
      have hsl := SlB.of (HT.out.base.below hB) (Nat.le_refl _)
      have hsp := SwpB.of (HT.out.swaps.below hB) (Nat.le_refl _)
      have hRl1 := hR.lt.1
      clear hall hR hM
      gi_wp2
      clear f2 hrun
      refine wpIn_loop (fun a W => ∃ k, RdI T p1 p2 c1 c2 w wr.heap.size mb w1.heap.size (w1.heap.size + 1) k a W) (fun a _ => rdmu T a) ⟨0, [], _, _, _, _, _, _, _, _, _, _, _, _, _, _, _, _, _, _, _, _, _, _, _, _, _, _, _, _, _, _, _, _, rfl, by omega, rfl, e0, e1, tc, hTK, hSw, hsl, hsp, trivial, hB, Nat.le_refl _⟩ ?_
      have hl0 := e1.lt; have hl1 := tc.lt
      clear e0 e1 tc hTK hSw hsl hsp hB
      generalize w1.heap.size + 1 = tcb at *
      generalize w1.heap.size = tb at *
      rintro a W ⟨k, ds, u5, u6, u7, u8, u9, u10, u11, u12, u13, u14, u15, u16, u17, u18, u19, u20, u21, u25, u26, u27, u28, u29, u30, u31, u32, u33, u34, u35, u36, u37, u38, u39, rfl, hk, hrd, e0, e1, tc, hTK, hSw, hsl, hsp, hM, hB, hm⟩
      by_cases hlt : k < T.base.length
      · obtain ⟨b3, o3, hp1, hb3, hc3⟩ := hsl.sl.get k hlt
        have g0 := hc3 k hlt
        have HBG := hidI (bget_eq T.base k hlt)
        have hsz := base_sz hf k hlt
        rw [HBG.out] at hsz
        have HRN := hidI (rdTo_succ T k)
        rw [HBG.out] at HRN
        have HRF := hidI (fun (u : ByteArray) (hu : u ∈ flw T (k : Int)) (ht : tkn T (bget T.base k ++ u) = true) => rd_false hlt hu ht)
        rw [HBG.out] at HRF
        generalize T.base[k] = x at *
        have hltI : (k : Int) < (T.base.length : Int) := by omega
        have f0 := (e0.alloc (.cells #[.string x] 9)).at 0 rfl
        have f1 := (e0.alloc (.cells #[.string x] 9)).at 1 rfl
        have f2 := (e0.alloc (.cells #[.string x] 9)).at 2 rfl
        have f3 := (e0.alloc (.cells #[.string x] 9)).at 3 rfl
        subst hp1
        clear hc3
        gi_wp2_with (refine ⟨trivial, ?_⟩; gi_at_call 55)
        refine (following_in Fence.wide 8 trivial rfl T (some ⟨b3, o3, none⟩) p2 c1 c2 mb (k : Int) _).mono ?_
        rintro e w' ⟨rfl, rfl⟩
        clear f0 f1 f2 f3 g0
        gi_wp2
        obtain ⟨V0, hV0⟩ : ∃ V0, V0 = (((W.alloc (.cells #[.string x] 9)).alloc (.cells #[.int .i64 T.q, .int .i64 T.n, .slice (some ⟨b3, o3, none⟩) T.base.length c1, .slice p2 T.swaps.length c2] 25)).alloc (.cells #[.map (some mb)] 67)).alloc (.cells #[.int .i64 k] 3) := ⟨_, rfl⟩
        have hlow : ∀ i, i < W.heap.size → V0.heap[i]? = W.heap[i]? := fun i hi => by
          subst hV0
          rw [Below.heap_alloc _ _ i (by simp; omega), Below.heap_alloc _ _ i (by simp; omega), Below.heap_alloc _ _ i (by simp; omega), Below.heap_alloc _ _ i hi]
        have y0 : VRow V0 W.heap.size 9 [.string x] := by subst hV0; exact (((VRow.new W _ _).alloc _).alloc _).alloc _
        have y1 : VRow V0 (W.heap.size + 1) 25 [.int .i64 T.q, .int .i64 T.n, .slice (some ⟨b3, o3, none⟩) T.base.length c1, .slice p2 T.swaps.length c2] := by subst hV0; exact ((VRow.new1 W _ _ _).alloc _).alloc _
        have y2 : VRow V0 (W.heap.size + 1 + 1) 67 [.map (some mb)] := by subst hV0; exact (VRow.new2 W _ _ _ _).alloc _
        have y3 : VRow V0 (W.heap.size + 1 + 1 + 1) 3 [.int .i64 k] := by
          subst hV0
          have h := VRow.new (((W.alloc (.cells #[.string x] 9)).alloc (.cells #[.int .i64 T.q, .int .i64 T.n, .slice (some ⟨b3, o3, none⟩) T.base.length c1, .slice p2 T.swaps.length c2] 25)).alloc (.cells #[.map (some mb)] 67)) 3 [.int .i64 k]
          simp only [World.size_alloc] at h; exact h
        have hsz0 : V0.heap.size = W.heap.size + 4 := by subst hV0; simp
        have hBV : RowKit.Below w.heap.size w V0 := by subst hV0; exact (((hB.alloc hB.size _).alloc (by have := hB.size; simp; omega) _).alloc (by have := hB.size; simp; omega) _).alloc (by have := hB.size; simp; omega) _
        have hKV : KeepsOthers W V0 := by subst hV0; exact (((KeepsOthers.alloc _ _).trans (KeepsOthers.alloc _ _)).trans (KeepsOthers.alloc _ _)).trans (KeepsOthers.alloc _ _)
        have hFB : FB V0.heap.size V0 T (some ⟨b3, o3, none⟩) p2 c1 c2 (W.heap.size + 1) (W.heap.size + 1 + 1) (W.heap.size + 1 + 1 + 1) mb (k : Int) := {
          tb := y1
          mp := y2
          ix := y3
          base := SlB.of (hsl.sl.below ⟨hBV.os.trans hB.os.symm, hBV.tape.trans hB.tape.symm, hBV.output.trans hB.output.symm, by omega, fun i hi => hlow i hi⟩) (Nat.le_refl _)
          swaps := SwpB.of (hsp.sg.below ⟨hBV.os.trans hB.os.symm, hBV.tape.trans hB.tape.symm, hBV.output.trans hB.output.symm, by omega, fun i hi => hlow i hi⟩) (Nat.le_refl _)
          rd := MpB.same hSw (hlow _ (MpB.lt hSw))
          l1 := by omega
          l2 := by omega
          l3 := by omega
          l4 := by have := MpB.lt hSw; omega
          sz := Nat.le_refl _ }
        try rw [← hV0]
        clear hV0
        have hTl := hTK.lt
        have hSl := MpB.lt hSw
        have he0 := e0.lt; have he1 := e1.lt; have hec := tc.lt
        refine' wpIn_rangeFunc_ownG rfl (by omega) (gf := 78) (lb := #[.pointer (some ⟨W.heap.size + 1, 0, none⟩), .pointer (some ⟨W.heap.size + 1 + 1, 0, none⟩), .pointer (some ⟨W.heap.size + 1 + 1 + 1, 0, none⟩)]) rfl trivial (enters_of Tryz.func78 (by kernel_rfl) rfl)
          (following_stops Fence.wide 8 trivial rfl (by omega) V0.heap.size V0.heap.size V0.heap.size (W.heap.size + 1) (W.heap.size + 1 + 1) (W.heap.size + 1 + 1 + 1) mb T (k : Int) (some ⟨b3, o3, none⟩) p2 c1 c2 hf (by omega) V0 (Nat.le_refl _) (Nat.le_refl _) hFB) KX.trans (KX_b (Nat.le_refl _)) (RowKit.Below.refl _ _) (fun _ => rfl)
          (fun pre V => ((clrL T x pre = true ∧ RowKit.Below w.heap.size w V) ∧ KeepsOthers V0 V) ∧ (V0.heap.size ≤ V.heap.size ∧ KX V0.heap.size V0.heap.size V0 V))
          (fun c pre V => (((c = .ret ∧ ∃ u ∈ pre, tkn T (x ++ u.1) = true) ∧ VRow V (w.heap.size + 1) 4 [.bool false]) ∧ RowKit.Below w.heap.size w V) ∧ KeepsOthers V0 V)
          (OwnFrom.and (OwnFrom.and (OwnFrom.and (fun _ _ _ _ hs _ _ => hs) (ownFrom_below (Nat.le_refl _) (by have := hBV.size; omega))) (ownFrom_keepsR _)) (ownFrom_kxR _))
          (fun c => OwnFrom.and (OwnFrom.and (OwnFrom.and (fun _ _ _ _ hs _ _ => hs) ((VRow.own _ _ (fun _ => [.bool false])).from _)) (ownFrom_below (Nat.le_refl _) (by have := hBV.size; omega))) (ownFrom_keepsR _))
          ⟨⟨⟨rfl, hBV⟩, KeepsOthers.refl _⟩, Nat.le_refl _, KX.refl _ _ _⟩
          _ ?assign ?body ?done ?stop
        case assign =>
          intro l' u V K hK
          unfold encN
          gi_wp2
          exact hK
        case body =>
          rintro l' pre ⟨u, hu⟩ V ⟨⟨⟨hcl, hB2⟩, hK2⟩, hz2, hX2⟩ hlen
          have k0 : VRow V W.heap.size 9 [.string x] := (hX2 _ (by omega) (by omega)).trans y0
          have k4 : VRow V tcb 94 [.map (some tb)] := (hX2 _ (by omega) (by omega)).trans ((hlow _ hec).trans tc)
          have kr : VRow V (w.heap.size + 1) 4 [.bool false] := (hX2 _ (by omega) (by omega)).trans ((hlow _ he1).trans e1)
          have hTV : TkM T V tb := hTK.same ((hX2 _ (by omega) (by omega)).trans (hlow _ hTl))
          have hxu : (x ++ u).size = x.size + u.size := ByteArray.size_append
          have hlk := hTV.look (x ++ u) (by rw [hxu]; unfold maxLen; omega)
          have HS : Hid (clrL T x (pre ++ [(⟨u, hu⟩ : SubN)]) = (clrL T x pre && !tkn T (x ++ u))) := by unfold Hid clrL; simp
          have d0 := k0.at 0 rfl; have d4 := k4.at 0 rfl; have dr := kr.at 0 rfl; have zr := kr.frozen 0
          have hx16 : x.size ≤ 16 := by omega
          clear hxu
          cases ht : tkn T (x ++ u)
          · have HS1 : Hid (clrL T x (pre ++ [(⟨u, hu⟩ : SubN)]) = true) := by rw [Hid, HS.out, hcl, ht]; rfl
            rw [ht] at hlk
            clear ht
            gi_wp2
            exact ⟨(KeepsOthers.refl _).from _, KX.refl _ _ _, ⟨⟨HS1.out, hB2⟩, hK2⟩, hz2, hX2⟩
          · rw [ht] at hlk
            have HTT := hidI ht
            clear ht
            gi_wp2
            refine ⟨(KeepsOthers.setCell _ _ _).from _, ⟨⟨⟨rfl, ⟨u, hu⟩, by simp, HTT.out⟩, VRow.set (i := 0) _ kr⟩, hB2.setCell (show w.heap.size ≤ w.heap.size + 1 by omega) _⟩, hK2.trans (KeepsOthers.setCell _ _ _)⟩
        case done =>
          rintro D ys V hD' hys ⟨⟨⟨hcl, hB2⟩, hK2⟩, hz2, hX2⟩ hK
          have hkp : ∀ j, j < W.heap.size → V.heap[j]? = W.heap[j]? := fun j hj => (hX2 j (by omega) (by omega)).trans (hlow j hj)
          have hRD : rdTo T (k + 1) = true := by rw [HRN.out, hrd, clr_flw hys, hcl]; rfl
          have n0 : VRow V w.heap.size 25 [.int .i64 T.q, .int .i64 T.n, .slice (some ⟨b3, o3, none⟩) T.base.length c1, .slice p2 T.swaps.length c2] := (hkp _ he0).trans e0
          have n1 : VRow V (w.heap.size + 1) 4 [.bool false] := (hkp _ he1).trans e1
          have n2 : VRow V tcb 94 [.map (some tb)] := (hkp _ hec).trans tc
          have n3 : TkM T V tb := hTK.same (hkp _ hTl)
          have n4 : SwB T.swaps V mb := MpB.same hSw (hkp _ hSl)
          have n5 : SlB wr.heap.size V (some ⟨b3, o3, none⟩) T.base := hsl.kept (fun j hj => hkp j (by omega))
          have n6 : SwpB wr.heap.size V p2 T.swaps := hsp.kept (fun j hj => hkp j (by omega))
          have n7 : Marks wr.heap.size V ({ target := .collected D, args := #[] } :: ds) :=
            (hM.others (hKV.trans hK2)).cons (by omega) hK (fun d hd => by obtain ⟨D', h1, h2⟩ := hM.lt d hd; exact ⟨D', h1, by omega⟩)
          gi_wp2
          refine ⟨⟨k + 1, _, _, _, _, _, _, _, _, _, _, _, _, _, _, _, _, _, _, _, _, _, _, _, _, _, _, _, _, _, _, _, _, _, rfl, by omega, hRD, n0, n1, n2, n3, n4, n5, n6, n7, hB2, by omega⟩, ?_⟩
          simp [rdmu, intOf]
          omega
        case stop =>
          rintro D c pre V hD' hSp ⟨⟨⟨⟨rfl, u, hu, ht⟩, hcell⟩, hB2⟩, hK2⟩ hK
          have hRF := HRF.out u.1 (hSp u hu) ht
          have n7 : Marks wr.heap.size V ({ target := .collected D, args := #[] } :: ds) :=
            (hM.others (hKV.trans hK2)).cons (by omega) hK (fun d hd => by obtain ⟨D', h1, h2⟩ := hM.lt d hd; exact ⟨D', h1, by omega⟩)
          gi_wp2
          refine leaves_marks _ V n7 (fun W' hW' => ?_)
          have hcl' : VRow W' (w.heap.size + 1) 4 [.bool false] := hW'.cells _ _ hcell rfl
          have y9 := hcl'.at 0 rfl
          refine ⟨.bool false, by simp [results, Tryz.results30, go_sem, y9], by rw [hRF], hB2.trans (hW'.below.mono (by have := hB.size; omega))⟩
      · obtain rfl : k = T.base.length := by omega
        have hltI : ¬ (T.base.length : Int) < (T.base.length : Int) := by omega
        have dr := e1.at 0 rfl; have zr := e1.frozen 0
        gi_wp2
        refine leaves_marks _ _ (hM.others (KeepsOthers.setCell W ⟨w.heap.size + 1, 0, none⟩ (.bool true))) (fun W' hW' => ?_)
        have hst : VRow (W.setCell ⟨w.heap.size + 1, 0, none⟩ (.bool true)) (w.heap.size + 1) 4 [.bool true] := VRow.set (i := 0) _ e1
        have hcl' : VRow W' (w.heap.size + 1) 4 [.bool true] := hW'.cells _ _ hst rfl
        have y9 := hcl'.at 0 rfl
        have hB2 : RowKit.Below w.heap.size w (W.setCell ⟨w.heap.size + 1, 0, none⟩ (.bool true)) := hB.setCell (show w.heap.size ≤ w.heap.size + 1 by omega) _
        have hrr : rdbl T = true := hrd
        refine ⟨.bool true, by simp [results, Tryz.results30, go_sem, y9], by rw [hrr], hB2.trans (hW'.below.mono (by have := hB.size; omega))⟩
    · unfold k2 at hrun hen
      have hsn := hfx
      have hyz : y.size ≤ maxLen := by
        obtain ⟨i, j⟩ := x
        rw [swapF_eq hf] at hfx
        have := swapW_size hf hfx
        unfold maxLen; omega
      have tc1 : VRow W1 (w1.heap.size + 1) 94 [.map (some w1.heap.size)] := tc.grown hg1 (fun e => by have := Option.some.inj e; omega)
      have k0 := e0.grown hg1 (fun e => by have := Option.some.inj e; omega)
      have k1 := e1.grown hg1 (fun e => by have := Option.some.inj e; omega)
      have hM1 : Mp Value.string okS Value.bool W1 w1.heap.size (takF T.swaps ks) := hM.kept hg1 (fun e => by have := Option.some.inj e; omega)
      have hBw : RowKit.Below w.heap.size w W1 := hB.grown hg1 hB.size (fun j e => by have := Option.some.inj e; omega)
      obtain ⟨W2, hrun2, hM2, hT2⟩ := Mp.store (P := Tryz.prog) (t := 94) hM1 keyS Tryz.underlying94 y hyz true
      have tcc := tc1.at 0 rfl
      have hg2 := hT2.grown
      have hR2 : RgA k2 ok2 Value.string W2 mb (w1.heap.size + 2) (ks ++ [x]) (swapF T.swaps) := hR1.same (hg2.block _ hR1.lt.1 (fun e => by have := Option.some.inj e; omega)) (hg2.block _ hR1.lt.2.1 (fun e => by have := Option.some.inj e; omega))
      have hlt2 : rgLe W2 mb (w1.heap.size + 2) < rgLe wr mb (w1.heap.size + 2) := by
        rw [rgLe_eq (hg2.block _ hR1.lt.1 (fun e => by have := Option.some.inj e; omega)) (hg2.block _ hR1.lt.2.1 (fun e => by have := Option.some.inj e; omega))]; exact hlt1
      have tc2 := tc1.grown hg2 (fun e => by have := Option.some.inj e; omega)
      have m0 := k0.grown hg2 (fun e => by have := Option.some.inj e; omega)
      have m1 := k1.grown hg2 (fun e => by have := Option.some.inj e; omega)
      have hB2 : RowKit.Below w.heap.size w W2 := hBw.grown hg2 hBw.size (fun j e => by have := Option.some.inj e; omega)
      have HM2 := hidI (hM2.congr (fun u => takF_snoc hsn u))
      clear hsz1 hg1 hg2 hfx hxk hxo hR hM tc e0 e1 hB tc1 k0 k1 hM1 hBw hT2 hM2 hlt1 hR1 hRl hsn
      gi_wp2
      go_roundw
      case rel => exact ⟨ks ++ [x], hR2, HM2.out, tc2, m0, m1, hB2⟩
      case measure => exact hlt2
end Go.Proofs.YtjpilmedlecdhaaGreat
