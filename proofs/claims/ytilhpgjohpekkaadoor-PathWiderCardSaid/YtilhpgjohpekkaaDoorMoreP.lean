/- What is said here: of two patterns the one that says more is told by an order; what a pattern's wildcards are. -/
import Derived.Test.YtilhpgjohpekkaaDoorPMore2
import Derived.Test.YtilhpgjohpekkaaDoorPathMatch
namespace Go.Proofs.YtilhpgjohpekkaaDoor.MoreP
set_option linter.unusedVariables false
set_option linter.unusedSimpArgs false
open Go.RowKit Go.Proofs.YtilhpgjohpekkaaDoorW.PrintWords Go.Proofs.YtilhpgjohpekkaaDoorW.PrintLast Go.Proofs.YtilhpgjohpekkaaDoorW.PrintMore
open PLib PSplit PathPure PMore

/-- A comparison that is an order. -/
structure Good {α : Type} (c : α → α → Int) : Prop where
  anti : ∀ a b, c b a = - c a b
  rng : ∀ a b, c a b = -1 ∨ c a b = 0 ∨ c a b = 1
  tr : ∀ a b d, 0 ≤ c a b → 0 ≤ c b d → 0 ≤ c a d ∧ (c a d = 0 → c a b = 0 ∧ c b d = 0)
theorem ci_cases (x y : Int) : (x < y ∧ Lib.compareInt x y = -1) ∨ (x = y ∧ Lib.compareInt x y = 0) ∨ (y < x ∧ Lib.compareInt x y = 1) := by
  unfold Lib.compareInt
  rcases Int.lt_trichotomy x y with h | h | h
  · exact Or.inl ⟨h, by rw [if_pos h]⟩
  · exact Or.inr (Or.inl ⟨h, by rw [if_neg (by omega), if_neg (by omega)]⟩)
  · exact Or.inr (Or.inr ⟨h, by rw [if_neg (by omega), if_pos (by omega)]⟩)
theorem good_int {α : Type} (f : α → Int) : Good (fun a b => Lib.compareInt (f a) (f b)) where
  anti a b := by
    show Lib.compareInt (f b) (f a) = - Lib.compareInt (f a) (f b)
    rcases ci_cases (f a) (f b) with ⟨h, e⟩ | ⟨h, e⟩ | ⟨h, e⟩ <;> rcases ci_cases (f b) (f a) with ⟨h', e'⟩ | ⟨h', e'⟩ | ⟨h', e'⟩ <;> rw [e, e'] <;> omega
  rng a b := by
    show Lib.compareInt (f a) (f b) = -1 ∨ Lib.compareInt (f a) (f b) = 0 ∨ Lib.compareInt (f a) (f b) = 1
    rcases ci_cases (f a) (f b) with ⟨h, e⟩ | ⟨h, e⟩ | ⟨h, e⟩ <;> rw [e] <;> omega
  tr a b d h1 h2 := by
    have h1 : 0 ≤ Lib.compareInt (f a) (f b) := h1
    have h2 : 0 ≤ Lib.compareInt (f b) (f d) := h2
    show 0 ≤ Lib.compareInt (f a) (f d) ∧ (Lib.compareInt (f a) (f d) = 0 → Lib.compareInt (f a) (f b) = 0 ∧ Lib.compareInt (f b) (f d) = 0)
    rcases ci_cases (f a) (f b) with ⟨h, e⟩ | ⟨h, e⟩ | ⟨h, e⟩ <;> rcases ci_cases (f b) (f d) with ⟨h', e'⟩ | ⟨h', e'⟩ | ⟨h', e'⟩ <;> rcases ci_cases (f a) (f d) with ⟨h'', e''⟩ | ⟨h'', e''⟩ | ⟨h'', e''⟩ <;> rw [e] at h1 <;> rw [e'] at h2 <;> rw [e, e', e''] <;> omega
theorem cb_cases (x y : UInt8) : (x < y ∧ ¬ y < x ∧ x ≠ y) ∨ x = y ∨ (y < x ∧ ¬ x < y ∧ x ≠ y) := by
  rcases (by have h1 := @UInt8.lt_iff_toNat_lt x y; have h2 := @UInt8.lt_iff_toNat_lt y x; have h3 := @UInt8.toNat_inj x y; rw [h1, h2, ← h3]; omega : x < y ∨ x = y ∨ y < x) with g | g | g
  · exact Or.inl ⟨g, fun e => UInt8.lt_irrefl _ (UInt8.lt_trans g e), fun e => by subst e; exact UInt8.lt_irrefl _ g⟩
  · exact Or.inr (Or.inl g)
  · exact Or.inr (Or.inr ⟨g, fun e => UInt8.lt_irrefl _ (UInt8.lt_trans g e), fun e => by subst e; exact UInt8.lt_irrefl _ g⟩)
theorem cb_step (x y : UInt8) (a b : List UInt8) : Lib.compareBytes (x :: a) (y :: b) = if x < y then -1 else if y < x then 1 else Lib.compareBytes a b := rfl
theorem cb_less (x y : UInt8) (a b : List UInt8) (h : x < y) : Lib.compareBytes (x :: a) (y :: b) = -1 := by rw [cb_step, if_pos h]
theorem cb_more (x y : UInt8) (a b : List UInt8) (h : y < x) : Lib.compareBytes (x :: a) (y :: b) = 1 := by
  rw [cb_step, if_neg (fun e => UInt8.lt_irrefl _ (UInt8.lt_trans h e)), if_pos h]
theorem cb_same (x : UInt8) (a b : List UInt8) : Lib.compareBytes (x :: a) (x :: b) = Lib.compareBytes a b := by
  rw [cb_step, if_neg (UInt8.lt_irrefl _), if_neg (UInt8.lt_irrefl _)]
theorem cb_anti (a : List UInt8) : ∀ b, Lib.compareBytes b a = - Lib.compareBytes a b := by
  induction a with
  | nil => intro b; cases b <;> rfl
  | cons x a ih =>
    intro b
    cases b with
    | nil => rfl
    | cons y b =>
      rcases cb_cases x y with ⟨g, _, _⟩ | g | ⟨g, _, _⟩
      · rw [cb_less x y a b g, cb_more y x b a g]; rfl
      · subst g
        rw [cb_same, cb_same, ih]
      · rw [cb_more x y a b g, cb_less y x b a g]
theorem cb_rng (a : List UInt8) : ∀ b, Lib.compareBytes a b = -1 ∨ Lib.compareBytes a b = 0 ∨ Lib.compareBytes a b = 1 := by
  induction a with
  | nil => intro b; cases b <;> simp [Lib.compareBytes]
  | cons x a ih =>
    intro b
    cases b with
    | nil => simp [Lib.compareBytes]
    | cons y b =>
      rcases cb_cases x y with ⟨g, _, _⟩ | g | ⟨g, _, _⟩
      · rw [cb_less x y a b g]; simp
      · subst g
        rw [cb_same]; exact ih b
      · rw [cb_more x y a b g]; simp
theorem cb_eq (a : List UInt8) : ∀ b, Lib.compareBytes a b = 0 ↔ a = b := by
  induction a with
  | nil => intro b; cases b <;> simp [Lib.compareBytes]
  | cons x a ih =>
    intro b
    cases b with
    | nil => simp [Lib.compareBytes]
    | cons y b =>
      rcases cb_cases x y with ⟨g, _, n⟩ | g | ⟨g, _, n⟩
      · rw [cb_less x y a b g]; simp [n]
      · subst g
        rw [cb_same, ih]; simp
      · rw [cb_more x y a b g]; simp [n]
theorem cb_tr (a : List UInt8) : ∀ b d, 0 ≤ Lib.compareBytes a b → 0 ≤ Lib.compareBytes b d → 0 ≤ Lib.compareBytes a d ∧ (Lib.compareBytes a d = 0 → Lib.compareBytes a b = 0 ∧ Lib.compareBytes b d = 0) := by
  induction a with
  | nil =>
    intro b d h1 h2
    cases b with
    | nil => exact ⟨h2, fun h => ⟨rfl, h⟩⟩
    | cons y b => exact absurd h1 (show ¬ (0 : Int) ≤ -1 by decide)
  | cons x a ih =>
    intro b d h1 h2
    cases b with
    | nil =>
      cases d with
      | nil => exact ⟨h1, fun h => ⟨h, rfl⟩⟩
      | cons z d => exact absurd h2 (show ¬ (0 : Int) ≤ -1 by decide)
    | cons y b =>
      cases d with
      | nil => exact ⟨show (0 : Int) ≤ 1 by decide, fun h => absurd h (show ¬ (1 : Int) = 0 by decide)⟩
      | cons z d =>
        rcases cb_cases x y with ⟨g, _, n⟩ | g | ⟨g, _, n⟩
        · rw [cb_less x y a b g] at h1; exact absurd h1 (by decide)
        · subst g
          rcases cb_cases x z with ⟨g, _, n⟩ | g | ⟨g, _, n⟩
          · rw [cb_less x z b d g] at h2; exact absurd h2 (by decide)
          · subst g
            simp only [cb_same] at h1 h2 ⊢
            exact ih b d h1 h2
          · rw [cb_more x z a d g]
            exact ⟨by decide, fun h => absurd h (by decide)⟩
        · rcases cb_cases y z with ⟨g', _, n'⟩ | g' | ⟨g', _, n'⟩
          · rw [cb_less y z b d g'] at h2; exact absurd h2 (by decide)
          · subst g'
            rw [cb_more x y a d g]
            exact ⟨by decide, fun h => absurd h (by decide)⟩
          · rw [cb_more x z a d (UInt8.lt_trans g' g)]
            exact ⟨by decide, fun h => absurd h (by decide)⟩
theorem good_bytes {α : Type} (f : α → List UInt8) : Good (fun a b => Lib.compareBytes (f a) (f b)) where
  anti a b := cb_anti _ _
  rng a b := cb_rng _ _
  tr a b d := cb_tr _ _ _
def lex {α : Type} (c d : α → α → Int) (a b : α) : Int := if c a b ≠ 0 then c a b else d a b
theorem good_lex {α : Type} {c d : α → α → Int} (hc : Good c) (hd : Good d) : Good (lex c d) where
  anti a b := by
    unfold lex
    have h := hc.anti a b
    by_cases h0 : c a b = 0
    · rw [if_neg (by omega), if_neg (by omega), hd.anti a b]
    · rw [if_pos (by omega), if_pos h0, h]
  rng a b := by
    unfold lex
    split
    · exact hc.rng a b
    · exact hd.rng a b
  tr a b e := by
    unfold lex
    have h := hc.tr a b e
    have h' := hc.tr e b a
    have a1 := hc.anti a b
    have a2 := hc.anti b e
    have a3 := hc.anti a e
    have k := hd.tr a b e
    intro h1 h2
    by_cases x : c a b = 0
    · rw [if_neg (by omega)] at h1
      by_cases y : c b e = 0
      · rw [if_neg (by omega)] at h2
        have z : c a e = 0 := by omega
        rw [if_neg (by omega), if_neg (by omega), if_neg (by omega)]
        exact k h1 h2
      · rw [if_pos y] at h2
        have z := h (by omega) h2
        rw [if_pos (by omega)]
        exact ⟨by omega, fun q => by omega⟩
    · rw [if_pos x] at h1
      have z := h h1 (by by_cases y : c b e = 0 <;> simp [y] at h2 <;> omega)
      rw [if_pos (by omega)]
      exact ⟨by omega, fun q => by omega⟩

/-! What a pattern is made of. -/
def seg (l : List UInt8) : Prop := segB (txt l) = true
def star (l : List UInt8) : Prop := starB (txt l) = true
theorem let_none (l : List UInt8) (h : letS (txt l) = true) : ∀ y ∈ l, y ≠ 42 ∧ y ≠ 43 ∧ y ≠ 47 := by
  intro y hy
  unfold letS at h
  rw [Bool.and_eq_true, List.all_eq_true] at h
  have := h.1 ((y.toNat : Nat) : Int) (by unfold bytesOf; exact List.mem_map.2 ⟨y, by rw [txt_list]; exact hy, rfl⟩)
  refine ⟨?_, ?_, ?_⟩ <;> (intro e; rw [e] at this; exact absurd this (by decide))
theorem seg_none (l : List UInt8) (h : seg l) : l ≠ [] ∧ ∀ y ∈ l, y ≠ 42 ∧ y ≠ 43 ∧ y ≠ 47 := by
  unfold seg segB at h
  rw [Bool.and_eq_true, Bool.and_eq_true, decide_eq_true_eq, toL, txt_list] at h
  exact ⟨h.2.1, let_none l h.1⟩
theorem star_is (l : List UInt8) (h : star l) : ∃ g, l = g ++ [42] ∧ letS (txt g) = true := by
  unfold star starB at h
  rw [Bool.and_eq_true, Bool.and_eq_true, decide_eq_true_eq, decide_eq_true_eq, txt_size] at h
  obtain ⟨h0, h1, h2⟩ := h
  refine ⟨l.take (l.length - 1), ?_, ?_⟩
  · have hb := (bt_eq (txt l) (l.length - 1) (by rw [txt_list]; omega) 42).1 h1
    simp only [txt_list] at hb
    have e := List.take_append_drop (l.length - 1) l
    rw [List.drop_eq_getElem_cons (by omega), List.drop_eq_nil_of_le (by omega), hb] at e
    exact e.symm
  · rw [extract_txt, txt_list, List.drop_zero] at h2
    exact h2
theorem star_of (g : List UInt8) (h : letS (txt g) = true) : star (g ++ [42]) := by
  unfold star starB
  rw [Bool.and_eq_true, Bool.and_eq_true, decide_eq_true_eq, decide_eq_true_eq, txt_size, List.length_append, List.length_singleton]
  refine ⟨by omega, ?_, ?_⟩
  · refine (bt_eq (txt (g ++ [42])) (g.length + 1 - 1) (by rw [txt_list, List.length_append, List.length_singleton]; omega) 42).2 ?_
    simp only [txt_list, Nat.add_sub_cancel]
    rw [List.getElem_append_right (Nat.le_refl _)]
    simp
  · rw [extract_txt, txt_list, List.drop_zero, Nat.add_sub_cancel, List.take_left]
    exact h
/-- A pattern's pieces. -/
def okL : List (List UInt8) → Prop
  | [] => True
  | [x] => seg x ∨ x = [43] ∨ star x
  | x :: y :: L => (seg x ∨ x = [43]) ∧ okL (y :: L)
theorem okL_cons (x y : List UInt8) (L : List (List UInt8)) : okL (x :: y :: L) = ((seg x ∨ x = [43]) ∧ okL (y :: L)) := rfl
theorem ok_list (L : List (List UInt8)) : ∀ n i, n = i + L.length → okAll n i (L.map txt) = true → okL L := by
  induction L with
  | nil => intro n i _ _; exact trivial
  | cons x L ih =>
    intro n i hn h
    rw [List.map_cons, okAll, Bool.and_eq_true] at h
    obtain ⟨h1, h2⟩ := h
    rw [List.length_cons] at hn
    unfold okP at h1
    rw [Bool.or_eq_true, Bool.or_eq_true, Bool.and_eq_true, decide_eq_true_eq, decide_eq_true_eq, toL, txt_list] at h1
    cases L with
    | nil =>
      rcases h1 with h | h | ⟨h, _⟩
      · exact Or.inl h
      · exact Or.inr (Or.inl h)
      · exact Or.inr (Or.inr h)
    | cons y L =>
      rw [okL_cons]
      refine ⟨?_, ih n (i + 1) (by omega) h2⟩
      rcases h1 with h | h | ⟨_, h⟩
      · exact Or.inl h
      · exact Or.inr h
      · rw [List.length_cons] at hn; omega
theorem pat_ok (p : ByteArray) (h : patR p = 0) : okL (segs 47 p.data.toList) := by
  have := (pat_facts p h).2
  unfold pieces at this
  exact ok_list _ _ 0 (by rw [List.length_map]; omega) this
/-- Two lists of bytes, one behind the other. -/
theorem segs_app2 (A : List UInt8) : ∀ (B : List UInt8) (L : List (List UInt8)) (h t : List UInt8) (R : List (List UInt8)), segs 47 A = L ++ [h] → segs 47 B = t :: R → segs 47 (A ++ B) = L ++ (h ++ t) :: R := by
  induction A with
  | nil =>
    intro B L h t R h1 h2
    have : L = [] ∧ h = [] := by
      cases L with
      | nil => exact ⟨rfl, by simpa [segs] using h1.symm⟩
      | cons a L => simp [segs] at h1
    obtain ⟨rfl, rfl⟩ := this
    exact h2
  | cons x A ih =>
    intro B L h t R h1 h2
    have hne := segs_ne 47 A
    obtain ⟨L', h', e⟩ : ∃ L' h', segs 47 A = L' ++ [h'] := ⟨(segs 47 A).dropLast, (segs 47 A).getLast hne, (List.dropLast_concat_getLast hne).symm⟩
    have hi := ih B L' h' t R e h2
    rw [List.cons_append, segs, hi]
    rw [segs, e] at h1
    by_cases hx : x = 47
    · rw [if_pos hx] at h1 ⊢
      have : [] :: (L' ++ [h']) = ([] :: L') ++ [h'] := rfl
      rw [this] at h1
      obtain ⟨rfl, h4⟩ := List.append_inj' h1 rfl
      obtain rfl : h' = h := by simpa using h4
      rfl
    · rw [if_neg hx] at h1 ⊢
      cases L' with
      | nil =>
        have h3 : [] ++ [x :: h'] = L ++ [h] := h1
        obtain ⟨rfl, h4⟩ := List.append_inj' h3 rfl
        obtain rfl : x :: h' = h := by simpa using h4
        rfl
      | cons a L' =>
        have h3 : ((x :: a) :: L') ++ [h'] = L ++ [h] := h1
        obtain ⟨rfl, h4⟩ := List.append_inj' h3 rfl
        obtain rfl : h' = h := by simpa using h4
        rfl
theorem segs_last (A : List UInt8) : ∃ L h, segs 47 A = L ++ [h] := ⟨(segs 47 A).dropLast, (segs 47 A).getLast (segs_ne 47 A), (List.dropLast_concat_getLast (segs_ne 47 A)).symm⟩
theorem segs_head (A : List UInt8) : ∃ t R, segs 47 A = t :: R := by
  cases h : segs 47 A with
  | nil => exact absurd h (segs_ne 47 A)
  | cons t R => exact ⟨t, R, rfl⟩
/-- The last piece ends the list. -/
theorem segs_end (A : List UInt8) : ∀ (L : List (List UInt8)) (h : List UInt8), segs 47 A = L ++ [h] → ∃ C, A = C ++ h := by
  induction A with
  | nil =>
    intro L h e
    cases L with
    | nil => exact ⟨[], by simpa [segs] using e⟩
    | cons a L => simp [segs] at e
  | cons x A ih =>
    intro L h e
    obtain ⟨L', h', e'⟩ := segs_last A
    obtain ⟨C, hC⟩ := ih L' h' e'
    rw [segs, e'] at e
    by_cases hx : x = 47
    · rw [if_pos hx] at e
      have : [] :: (L' ++ [h']) = ([] :: L') ++ [h'] := rfl
      rw [this] at e
      obtain ⟨_, h4⟩ := List.append_inj' e rfl
      obtain rfl : h' = h := by simpa using h4
      exact ⟨x :: C, by rw [hC]; rfl⟩
    · rw [if_neg hx] at e
      cases L' with
      | nil =>
        have h3 : [] ++ [x :: h'] = L ++ [h] := e
        obtain ⟨_, h4⟩ := List.append_inj' h3 rfl
        obtain rfl : x :: h' = h := by simpa using h4
        have e2 := ih [] h' e'
        -- one piece alone: the list itself
        have : A = h' := by
          clear ih e e2 hC h3 h4
          revert h'
          induction A with
          | nil => intro h' e; simpa [segs] using e
          | cons y A ih =>
            intro h' e
            obtain ⟨t, R, eh⟩ := segs_head A
            rw [segs, eh] at e
            by_cases hy : y = 47
            · rw [if_pos hy] at e; simp at e
            · rw [if_neg hy] at e
              have h5 : [y :: t] = [h'] ∧ R = [] := by
                have : (y :: t) :: R = [h'] := e
                simp only [List.cons.injEq] at this
                exact ⟨by rw [this.1], this.2⟩
              have := ih t (by rw [eh, h5.2]; rfl)
              rw [this]
              simpa using h5.1
        exact ⟨[], by rw [this]; rfl⟩
      | cons a L' =>
        have h3 : ((x :: a) :: L') ++ [h'] = L ++ [h] := e
        obtain ⟨_, h4⟩ := List.append_inj' h3 rfl
        obtain rfl : h' = h := by simpa using h4
        exact ⟨x :: C, by rw [hC]; rfl⟩
/-- A byte that parts nothing is counted piece by piece. -/
theorem count_segs (c : UInt8) (hc : c ≠ 47) (A : List UInt8) : A.count c = ((segs 47 A).map (List.count c)).sum := by
  induction A with
  | nil => rfl
  | cons x A ih =>
    obtain ⟨t, R, e⟩ := segs_head A
    rw [e] at ih
    rw [segs, e]
    by_cases hx : x = 47
    · rw [if_pos hx, List.map_cons, List.sum_cons, ← ih, hx, List.count_cons_of_ne (Ne.symm hc)]
      simp
    · rw [if_neg hx]
      show _ = (((x :: t) :: R).map (List.count c)).sum
      rw [List.map_cons, List.sum_cons, List.count_cons, List.count_cons, ih, List.map_cons, List.sum_cons]
      omega
theorem count_none (c : UInt8) (l : List UInt8) (h : ∀ y ∈ l, y ≠ c) : l.count c = 0 := List.count_eq_zero.2 (fun hm => h c hm rfl)
/-- A pattern's pieces but the last one have no star; the last one has one at its end, or none. -/
theorem okL_split (L : List (List UInt8)) : ∀ x, okL (L ++ [x]) → (∀ y ∈ L, seg y ∨ y = [43]) ∧ (seg x ∨ x = [43] ∨ star x) := by
  induction L with
  | nil => intro x h; exact ⟨fun y hy => absurd hy (by simp), h⟩
  | cons a L ih =>
    intro x h
    have h' : (seg a ∨ a = [43]) ∧ okL (L ++ [x]) := by
      cases L with
      | nil => exact h
      | cons b L => exact h
    obtain ⟨i1, i2⟩ := ih x h'.2
    exact ⟨fun y hy => by
      rcases List.mem_cons.1 hy with rfl | hy
      · exact h'.1
      · exact i1 y hy, i2⟩
theorem plain_none (y : List UInt8) (h : seg y ∨ y = [43]) : y ≠ [] ∧ ∀ z ∈ y, z ≠ 42 := by
  rcases h with h | rfl
  · exact ⟨(seg_none y h).1, fun z hz => ((seg_none y h).2 z hz).1⟩
  · exact ⟨by simp, fun z hz => by rw [List.mem_singleton.1 hz]; decide⟩
theorem sum_zero (L : List (List UInt8)) (h : ∀ y ∈ L, seg y ∨ y = [43]) : (L.map (List.count (42 : UInt8))).sum = 0 := by
  induction L with
  | nil => rfl
  | cons a L ih =>
    rw [List.map_cons, List.sum_cons, ih (fun y hy => h y (by simp [hy])), count_none 42 a (plain_none a (h a (by simp))).2]
/-- A pattern: it has bytes; it ends in its only star, or has none. -/
theorem pat_end (p : ByteArray) (h : patR p = 0) : ∃ C b, p.data.toList = C ++ [b] ∧ p.data.toList.count 42 = if b = 42 then 1 else 0 := by
  obtain ⟨L, x, e⟩ := segs_last p.data.toList
  have hok := pat_ok p h
  rw [e] at hok
  obtain ⟨h1, h2⟩ := okL_split L x hok
  obtain ⟨C, hC⟩ := segs_end _ L x e
  have hcnt := count_segs 42 (by decide) p.data.toList
  rw [e, List.map_append, List.sum_append, sum_zero L h1, Nat.zero_add] at hcnt
  have hc1 : p.data.toList.count 42 = x.count 42 := by rw [hcnt]; simp
  have plain : (seg x ∨ x = [43]) → ∃ C b, p.data.toList = C ++ [b] ∧ p.data.toList.count 42 = if b = 42 then 1 else 0 := by
    intro hp
    obtain ⟨hne, hn⟩ := plain_none x hp
    refine ⟨C ++ x.dropLast, x.getLast hne, ?_, ?_⟩
    · rw [hC, List.append_assoc, List.dropLast_concat_getLast hne]
    · rw [hc1, count_none 42 x hn, if_neg (hn _ (List.getLast_mem hne))]
  rcases h2 with h2 | h2 | h2
  · exact plain (Or.inl h2)
  · exact plain (Or.inr h2)
  · obtain ⟨g, hg, hl⟩ := star_is x h2
    refine ⟨C ++ g, 42, ?_, ?_⟩
    · rw [hC, hg, List.append_assoc]
    · rw [hc1, hg, List.count_append, count_none 42 g (fun y hy => (let_none g hl y hy).1), if_pos rfl]
      rfl
theorem pat_star_le (p : ByteArray) (h : patR p = 0) : p.data.toList.count 42 ≤ 1 := by
  obtain ⟨C, b, _, h2⟩ := pat_end p h
  rw [h2]
  split <;> omega
theorem pat_size (p : ByteArray) (h : patR p = 0) : p.size ≤ 128 ∧ p.size ≠ 0 := by
  refine ⟨small p (pat_facts p h).1, ?_⟩
  obtain ⟨C, b, h1, _⟩ := pat_end p h
  rw [size_data, h1, List.length_append]
  simp

/-! The order. -/
def nk (p : ByteArray) (n : Int) : Int := if patR p = 0 then n else 0
def K (p : ByteArray) : Int := if patR p = 0 then 1 else 0
def moreL : ByteArray → ByteArray → Int :=
  lex (fun a b => Lib.compareInt (K a) (K b)) <| lex (fun a b => Lib.compareInt (nk a (firstN a)) (nk b (firstN b))) <| lex (fun a b => Lib.compareInt (nk a (- cnt 42 a)) (nk b (- cnt 42 b))) <|
  lex (fun a b => Lib.compareInt (nk a (- cnt 43 a)) (nk b (- cnt 43 b))) <| lex (fun a b => Lib.compareInt (nk a (a.size : Int)) (nk b (b.size : Int))) (fun a b => Lib.compareBytes (if patR a = 0 then a.data.toList else []) (if patR b = 0 then b.data.toList else []))
theorem good_more : Good moreL :=
  good_lex (good_int K) (good_lex (good_int _) (good_lex (good_int _) (good_lex (good_int _) (good_lex (good_int _) (good_bytes _)))))
theorem ci_neg (x y : Int) : Lib.compareInt (-x) (-y) = Lib.compareInt y x := by
  rcases ci_cases (-x) (-y) with ⟨h, e⟩ | ⟨h, e⟩ | ⟨h, e⟩ <;> rcases ci_cases y x with ⟨h', e'⟩ | ⟨h', e'⟩ | ⟨h', e'⟩ <;> rw [e, e'] <;> omega
theorem q2_is (a b : ByteArray) (ha : patR a = 0) (hb : patR b = 0) : q2 a b = Lib.compareInt (- cnt 42 a) (- cnt 42 b) := by
  have h1 := pat_star_le a ha
  have h2 := pat_star_le b hb
  rw [ci_neg]
  unfold q2
  rw [cnt_eq, cnt_eq]
  rcases ci_cases (((b.data.toList.count 42 : Nat) : Int)) ((a.data.toList.count 42 : Nat) : Int) with ⟨h, e⟩ | ⟨h, e⟩ | ⟨h, e⟩ <;> rw [e] <;> omega
theorem more_is (a b : ByteArray) : moreR a b = moreL a b := by
  unfold moreR moreL
  by_cases ha : patR a = 0
  · by_cases hb : patR b = 0
    · rw [if_pos ha, if_pos hb]
      unfold moreQ lex
      rw [q2_is a b ha hb]
      unfold q1 q3 q4 q5 K nk
      simp only [if_pos ha, if_pos hb, ci_neg]
      rw [if_neg (by decide : ¬ Lib.compareInt 1 1 ≠ 0)]
    · rw [if_pos ha, if_neg hb]
      unfold lex K
      simp only [if_pos ha, if_neg hb]
      rfl
  · by_cases hb : patR b = 0
    · rw [if_neg ha, if_pos hb]
      unfold lex K
      simp only [if_pos hb, if_neg ha]
      rfl
    · rw [if_neg ha, if_neg hb]
      unfold lex K nk
      simp only [if_neg ha, if_neg hb]
      rfl
theorem more_zero (a b : ByteArray) (ha : patR a = 0) (hb : patR b = 0) : moreR a b = 0 ↔ a = b := by
  constructor
  · intro h
    have h5 : q5 a b = 0 := by
      unfold moreR at h
      rw [if_pos ha, if_pos hb] at h
      unfold moreQ at h
      split at h
      · contradiction
      · split at h
        · contradiction
        · split at h
          · contradiction
          · split at h
            · contradiction
            · exact h
    exact ByteArray.ext (Array.toList_inj.1 ((cb_eq _ _).1 h5))
  · rintro rfl
    rw [more_is]
    have := good_more.anti a a
    omega
/-- Wildcards. -/
def wild (l : List UInt8) : Int := Lib.indexAny l [43, 42]
theorem wild_ge (l : List UInt8) : -1 ≤ wild l := Lib.indexAny_ge _ l
theorem wild_cons (x : UInt8) (l : List UInt8) : wild (x :: l) = if x = 43 ∨ x = 42 then 0 else if wild l = -1 then -1 else wild l + 1 := by
  unfold wild
  rw [Lib.indexAny]
  by_cases h : x = 43 ∨ x = 42
  · rw [if_pos h, if_pos (by rcases h with rfl | rfl <;> decide)]
  · rw [if_neg h, if_neg (by intro hc; rw [List.contains_iff_mem] at hc; simp at hc; exact h hc)]
    by_cases h2 : Lib.indexAny l [43, 42] = -1
    · rw [if_pos h2, h2]; rfl
    · rw [if_neg h2, if_neg (by simpa using h2)]
theorem wild_app (A B : List UInt8) : wild (A ++ B) = if 0 ≤ wild A then wild A else if 0 ≤ wild B then (A.length : Int) + wild B else -1 := by
  induction A with
  | nil =>
    have := wild_ge B
    rw [List.nil_append, if_neg (by decide)]
    split
    · simp
    · omega
  | cons x A ih =>
    have h1 := wild_ge A
    have h2 := wild_ge B
    rw [List.cons_append, wild_cons, wild_cons, ih, List.length_cons]
    by_cases hx : x = 43 ∨ x = 42
    · rw [if_pos hx, if_pos hx, if_pos (by decide)]
    · rw [if_neg hx, if_neg hx]
      repeat' split
      all_goals omega
theorem wild_none (l : List UInt8) (h : ∀ y ∈ l, y ≠ 42 ∧ y ≠ 43) : wild l = -1 := by
  induction l with
  | nil => rfl
  | cons x l ih =>
    have hx := h x (by simp)
    rw [wild_cons, if_neg (by rintro (rfl | rfl); exact hx.2 rfl; exact hx.1 rfl), ih (fun y hy => h y (by simp [hy])), if_pos rfl]
theorem wild_some (l : List UInt8) (h : 0 ≤ wild l) : wild l < l.length := by
  induction l with
  | nil => exact absurd h (by decide)
  | cons x l ih =>
    rw [wild_cons] at h ⊢
    rw [List.length_cons]
    split
    · omega
    · rename_i hx
      rw [if_neg hx] at h
      split
      · omega
      · rename_i h2
        rw [if_neg h2] at h
        have := wild_ge l
        have := ih (by omega)
        omega
theorem first_is (p : ByteArray) : firstN p = if 0 ≤ wild p.data.toList then wild p.data.toList else 129 := rfl
end Go.Proofs.YtilhpgjohpekkaaDoor.MoreP
