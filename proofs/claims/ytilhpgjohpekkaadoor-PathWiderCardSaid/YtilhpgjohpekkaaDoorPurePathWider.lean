/- It is proved here that a pattern with a piece made + or its end made * matches no less, and says less. -/
import Derived.Test.YtilhpgjohpekkaaDoorPOx5
import Derived.Test.YtilhpgjohpekkaaDoorMoreP2
namespace Go.Proofs.YtilhpgjohpekkaaDoor.MoreP
set_option linter.unusedVariables false
set_option linter.unusedSimpArgs false
open Go.RowKit Go.Proofs.YtilhpgjohpekkaaDoorW.PrintWords Go.Proofs.YtilhpgjohpekkaaDoorW.PrintLast Go.Proofs.YtilhpgjohpekkaaDoorW.PrintMore
open PLib PSplit PathPure PMore

theorem pre_is (q h : ByteArray) : preB q h = true ↔ ∃ t, q.data.toList = h.data.toList ++ t := by
  have hq := size_data q
  have hh := size_data h
  unfold preB
  rw [Bool.and_eq_true, decide_eq_true_eq, beq_iff_eq, ext_list, List.drop_zero, toL]
  constructor
  · rintro ⟨h1, h2⟩
    refine ⟨q.data.toList.drop h.size, ?_⟩
    conv => lhs; rw [← List.take_append_drop h.size q.data.toList]
    rw [h2]
  · rintro ⟨t, ht⟩
    refine ⟨by rw [hq, hh, ht, List.length_append]; omega, ?_⟩
    rw [ht, hh, List.take_left]
theorem join_front (m : ByteArray) (M : List ByteArray) : ∃ t, (joinB (m :: M)).data.toList = m.data.toList ++ t := by
  rw [joinB]
  have hm : M = (M.map (·.data.toList)).map txt := by
    rw [List.map_map]
    exact ((List.map_congr_left (fun a _ => txt_data a)).trans (List.map_id' M)).symm
  rw [hm, fold_list]
  refine ⟨(M.map (·.data.toList)).foldl (fun a y => (a ++ [47]) ++ y) [], ?_⟩
  rw [← fold_front, List.append_nil]
/-- The last byte of a list is no star: the list is no star. -/
theorem not_star (x : List UInt8) (h : ∀ g, x ≠ g ++ [42]) : starB (txt x) = false := by
  rw [Bool.eq_false_iff]
  intro hs
  obtain ⟨g, hg, _⟩ := star_is x hs
  exact h g hg
theorem mt_star (h t : List UInt8) (hs : letS (txt h) = true) (R : List ByteArray) (L : List ByteArray) : ∀ M, mt (L ++ txt (h ++ t) :: R) M = true → mt (L ++ [txt (h ++ [42])]) M = true := by
  have hst : starB (txt (h ++ [42])) = true := star_of h hs
  induction L with
  | nil =>
    intro M hm
    rw [List.nil_append] at hm ⊢
    cases M with
    | nil => exact absurd hm (by rw [show mt (txt (h ++ t) :: R) [] = false from rfl]; decide)
    | cons m M' =>
      rw [mt_cons] at hm ⊢
      rw [hst, if_pos (by rfl), txt_size, List.length_append, List.length_singleton, extract_txt, txt_list, List.drop_zero, Nat.add_sub_cancel, List.take_left]
      rw [pre_is, txt_list]
      by_cases hc : (R.isEmpty && starB (txt (h ++ t))) = true
      · rw [if_pos hc] at hm
        rw [Bool.and_eq_true] at hc
        obtain ⟨g, hg, _⟩ := star_is (h ++ t) hc.2
        rw [pre_is, extract_txt, txt_list, txt_list, List.drop_zero, txt_size] at hm
        obtain ⟨u, hu⟩ := hm
        -- t has a byte
        have ht : t ≠ [] := by
          rintro rfl
          rw [List.append_nil] at hg
          have := (let_none h hs 42 (by rw [hg]; simp)).1
          exact this rfl
        refine ⟨t.dropLast ++ u, ?_⟩
        have hl : 0 < t.length := List.length_pos_iff.2 ht
        rw [hu, List.length_append, List.take_append, List.take_of_length_le (by omega), List.append_assoc, List.dropLast_eq_take]
        congr 3
        omega
      · rw [if_neg hc, Bool.and_eq_true, Bool.or_eq_true, decide_eq_true_eq, decide_eq_true_eq, toL, toL, txt_list] at hm
        obtain ⟨u, hu⟩ := join_front m M'
        rcases hm.1 with e | e
        · have : h = [] := by
            cases h with
            | nil => rfl
            | cons a h =>
              have e' : a = 43 := by simpa using (List.cons.inj e).1
              have := (let_none (a :: h) hs a (by simp)).2.1
              exact absurd e' this
          subst this
          exact ⟨_, rfl⟩
        · exact ⟨t ++ u, by rw [hu, ← e, List.append_assoc]⟩
  | cons y L ih =>
    intro M hm
    have e1 : ∀ z, (L ++ z :: R).isEmpty = false := fun z => by cases L <;> rfl
    have e2 : ∀ z, (L ++ [z]).isEmpty = false := fun z => by cases L <;> rfl
    cases M with
    | nil => exact absurd hm (by rw [List.cons_append, show ∀ L', mt (y :: L') [] = false from fun _ => rfl]; decide)
    | cons m M' =>
      rw [List.cons_append, mt_cons, e1, Bool.false_and, if_neg (by decide), Bool.and_eq_true] at hm
      rw [List.cons_append, mt_cons, e2, Bool.false_and, if_neg (by decide), Bool.and_eq_true]
      exact ⟨hm.1, ih M' hm.2⟩
theorem mt_plus (x : ByteArray) (hx : starB x = false) (R : List ByteArray) (L : List ByteArray) : ∀ M, mt (L ++ x :: R) M = true → mt (L ++ txt [43] :: R) M = true := by
  have hp : starB (txt [43]) = false := not_star [43] (by
    intro g hg
    have : ([43] : List UInt8).getLast? = (g ++ [42]).getLast? := by rw [hg]
    simp at this)
  induction L with
  | nil =>
    intro M hm
    rw [List.nil_append] at hm ⊢
    cases M with
    | nil => exact absurd hm (by rw [show mt (x :: R) [] = false from rfl]; decide)
    | cons m M' =>
      rw [mt_cons, hx, Bool.and_false, if_neg (by decide), Bool.and_eq_true] at hm
      rw [mt_cons, hp, Bool.and_false, if_neg (by decide), Bool.and_eq_true]
      exact ⟨by rw [toL, txt_list]; rfl, hm.2⟩
  | cons y L ih =>
    intro M hm
    have e1 : ∀ z, (L ++ z :: R).isEmpty = false := fun z => by cases L <;> rfl
    cases M with
    | nil => exact absurd hm (by rw [List.cons_append, show ∀ L', mt (y :: L') [] = false from fun _ => rfl]; decide)
    | cons m M' =>
      rw [List.cons_append, mt_cons, e1, Bool.false_and, if_neg (by decide), Bool.and_eq_true] at hm
      rw [List.cons_append, mt_cons, e1, Bool.false_and, if_neg (by decide), Bool.and_eq_true]
      exact ⟨hm.1, ih M' hm.2⟩
theorem match_is (p q : ByteArray) : matchR p q = true ↔ patR p = 0 ∧ (splitR q).2 = 0 ∧ mt ((segs 47 p.data.toList).map txt) (pieces 47 q) = true := by
  unfold matchR
  rw [Bool.and_eq_true, Bool.and_eq_true, decide_eq_true_eq, decide_eq_true_eq]
  rfl
/-- All behind any byte cut off, and a star put there: it matches no less. -/
theorem wide_star (A B : List UInt8) (p o q : ByteArray) (hp : p.data.toList = A ++ B) (ho : o.data.toList = A ++ [42]) (hm : matchR p q = true) (hok : patR o = 0) : matchR o q = true := by
  rw [match_is] at hm ⊢
  refine ⟨hok, hm.2.1, ?_⟩
  obtain ⟨L, h, e1⟩ := segs_last A
  obtain ⟨t, R, e2⟩ := segs_head B
  have s1 := segs_app2 A B L h t R e1 e2
  have s2 := segs_app2 A [42] L h [42] [] e1 rfl
  have hk := pat_ok o hok
  rw [ho, s2] at hk
  have hx := (okL_split L (h ++ [42]) hk).2
  have hs : letS (txt h) = true := by
    rcases hx with g | g | g
    · exact absurd rfl ((seg_none _ g).2 42 (by simp)).1
    · have : (h ++ [42]).getLast? = ([43] : List UInt8).getLast? := by rw [g]
      simp at this
    · obtain ⟨g', e, hl⟩ := star_is _ g
      have := List.append_inj_left' e rfl
      rw [this]; exact hl
  have := hm.2.2
  rw [hp, s1, List.map_append, List.map_cons] at this
  rw [ho, s2, List.map_append, List.map_cons, List.map_nil]
  exact mt_star h t hs _ _ _ this
/-- A piece made +: it matches no less. A: ahead of the piece; x: the piece; B: what stands behind it. -/
theorem seg_nil_end (A : List UInt8) (hA : A = [] ∨ ∃ C, A = C ++ [47]) : ∃ L, segs 47 A = L ++ [[]] := by
  rcases hA with rfl | ⟨C, rfl⟩
  · exact ⟨[], rfl⟩
  · obtain ⟨L, h, e⟩ := segs_last C
    exact ⟨L ++ [h], by
      have := segs_app2 C [47] L h [] [[]] e rfl
      rw [this, List.append_nil, List.append_assoc]
      rfl⟩
theorem seg_nil_front (B : List UInt8) (hB : B = [] ∨ ∃ C, B = 47 :: C) : ∃ R, segs 47 B = [] :: R := by
  rcases hB with rfl | ⟨C, rfl⟩
  · exact ⟨[], rfl⟩
  · exact ⟨segs 47 C, by rw [segs, if_pos rfl]⟩
theorem seg_mid (A x B : List UInt8) (hA : A = [] ∨ ∃ C, A = C ++ [47]) (hB : B = [] ∨ ∃ C, B = 47 :: C) : ∃ L R, ∀ x : List UInt8, (∀ y ∈ x, y ≠ 47) → segs 47 (A ++ x ++ B) = L ++ x :: R := by
  obtain ⟨L, e1⟩ := seg_nil_end A hA
  obtain ⟨R, e2⟩ := seg_nil_front B hB
  refine ⟨L, R, fun x hx => ?_⟩
  have s1 := segs_app2 A x L [] x [] e1 (segs_none 47 x hx)
  have s2 := segs_app2 (A ++ x) B L x [] R (by rw [s1]; rfl) e2
  rw [s2, List.append_nil]
theorem wide_plus (A x B : List UInt8) (p o q : ByteArray) (hA : A = [] ∨ ∃ C, A = C ++ [47]) (hB : B = [] ∨ ∃ C, B = 47 :: C) (hx : ∀ y ∈ x, y ≠ 47) (hl : ∀ g, x ≠ g ++ [42])
    (hp : p.data.toList = A ++ x ++ B) (ho : o.data.toList = A ++ [43] ++ B) (hm : matchR p q = true) (hok : patR o = 0) : matchR o q = true := by
  rw [match_is] at hm ⊢
  refine ⟨hok, hm.2.1, ?_⟩
  obtain ⟨L, R, e⟩ := seg_mid A x B hA hB
  have := hm.2.2
  rw [hp, e x hx, List.map_append, List.map_cons] at this
  rw [ho, e [43] (by intro y hy; rw [List.mem_singleton.1 hy]; decide), List.map_append, List.map_cons]
  exact mt_plus _ (not_star x hl) _ _ _ this
/-! .. and says less. -/
theorem more_of (p o : ByteArray) (hp : patR p = 0) (ho : patR o = 0) (h1 : firstN o ≤ firstN p) (h2 : firstN o = firstN p → q2 p o ≠ 0 → q2 p o = 1) (h3 : firstN o = firstN p → q2 p o = 0 → q3 p o = 1) : moreR p o = 1 := by
  unfold moreR
  rw [if_pos hp, if_pos ho]
  unfold moreQ
  have e1 : q1 p o = if firstN o = firstN p then 0 else 1 := by
    unfold q1
    rcases ci_cases (firstN p) (firstN o) with ⟨g, e⟩ | ⟨g, e⟩ | ⟨g, e⟩
    · omega
    · rw [e, if_pos g.symm]
    · rw [e, if_neg (by omega)]
  by_cases h : firstN o = firstN p
  · rw [if_pos h] at e1
    rw [e1, if_neg (by decide)]
    by_cases g : q2 p o = 0
    · rw [g, if_neg (by decide), h3 h g, if_pos (by decide)]
    · rw [if_pos g, h2 h g]
  · rw [if_neg h] at e1
    rw [e1, if_pos (by decide)]
theorem less_star (A B : List UInt8) (p o : ByteArray) (hp : p.data.toList = A ++ B) (ho : o.data.toList = A ++ [42]) (kp : patR p = 0) (ko : patR o = 0) (hl : p.data.toList.count 42 = 0) : moreR p o = 1 := by
  have hs := (pat_size o ko).1
  rw [size_data, ho, List.length_append, List.length_singleton] at hs
  have hg := wild_ge B
  have hgA := wild_ge A
  have hc : o.data.toList.count 42 ≤ 1 := pat_star_le o ko
  have hc2 : o.data.toList.count 42 = 1 := by
    rw [ho, List.count_append] at hc ⊢
    have : ([42] : List UInt8).count 42 = 1 := by decide
    omega
  have e2 : q2 p o = 1 := by
    unfold q2
    rw [cnt_eq, cnt_eq, hc2, hl]
    rfl
  apply more_of p o kp ko
  · rw [first_is, first_is, hp, ho]
    by_cases hA : 0 ≤ wild A
    · have f0 : ∀ C, wild (A ++ C) = wild A := fun C => by rw [wild_app, if_pos hA]
      rw [f0, f0]
      exact Int.le_refl _
    · have f1 : wild (A ++ [42]) = A.length := by rw [wild_app, if_neg hA, show wild [42] = 0 from rfl, if_pos (Int.le_refl 0)]; simp
      have f2 : wild (A ++ B) = -1 ∨ (A.length : Int) ≤ wild (A ++ B) := by rw [wild_app, if_neg hA]; split <;> omega
      rw [f1, if_pos (by omega)]
      split <;> omega
  · exact fun _ _ => e2
  · intro _ h; rw [e2] at h; exact absurd h (by decide)
theorem less_plus (A x B : List UInt8) (p o : ByteArray) (hA : A = [] ∨ ∃ C, A = C ++ [47]) (hB : B = [] ∨ ∃ C, B = 47 :: C) (hx : ∀ y ∈ x, y ≠ 47) (hl : ∀ g, x ≠ g ++ [42])
    (hp : p.data.toList = A ++ x ++ B) (ho : o.data.toList = A ++ [43] ++ B) (kp : patR p = 0) (ko : patR o = 0) (hne : x ≠ [43]) : moreR p o = 1 := by
  obtain ⟨L, R, e⟩ := seg_mid A x B hA hB
  have hk := okL_mem _ (pat_ok p kp) x (by rw [hp, e x hx]; simp)
  have hseg : seg x := by
    rcases hk with g | g | g
    · exact g
    · exact absurd g hne
    · obtain ⟨y, hy, _⟩ := star_is x g
      exact absurd hy (hl y)
  obtain ⟨hx0, hxn⟩ := seg_none x hseg
  have hxl : 0 < x.length := List.length_pos_iff.2 hx0
  have hwx : wild x = -1 := wild_none x (fun y hy => ⟨(hxn y hy).1, (hxn y hy).2.1⟩)
  have hs := (pat_size o ko).1
  rw [size_data, ho, List.length_append, List.length_append, List.length_singleton] at hs
  have hg := wild_ge B
  have hgA := wild_ge A
  have c42 : x.count 42 = 0 := count_none 42 x (fun y hy => (hxn y hy).1)
  have c43 : x.count 43 = 0 := count_none 43 x (fun y hy => (hxn y hy).2.1)
  have e2 : q2 p o = 0 := by
    unfold q2
    rw [cnt_eq, cnt_eq, hp, ho, List.count_append, List.count_append, List.count_append, List.count_append, c42, show ([43] : List UInt8).count 42 = 0 by decide]
    omega
  apply more_of p o kp ko
  · rw [first_is, first_is, hp, ho]
    by_cases hA : 0 ≤ wild A
    · have f0 : ∀ C, wild (A ++ C) = wild A := fun C => by rw [wild_app, if_pos hA]
      rw [List.append_assoc, List.append_assoc, f0, f0]
      exact Int.le_refl _
    · have f1 : wild (A ++ [43]) = A.length := by rw [wild_app, if_neg hA, show wild [43] = 0 from rfl, if_pos (Int.le_refl 0)]; simp
      have f2 : wild (A ++ [43] ++ B) = A.length := by rw [wild_app, f1, if_pos (by omega)]
      have f3 : wild (A ++ x) = -1 := by rw [wild_app, if_neg hA, hwx, if_neg (by decide)]
      have f4 : wild (A ++ x ++ B) = -1 ∨ (A.length : Int) ≤ wild (A ++ x ++ B) := by rw [wild_app, f3, if_neg (by decide), List.length_append]; split <;> omega
      rw [f2, if_pos (by omega)]
      split <;> omega
  · intro _ h; exact absurd e2 h
  · intro _ _
    unfold q3
    rw [cnt_eq, cnt_eq, hp, ho, List.count_append, List.count_append, List.count_append, List.count_append, c43, show ([43] : List UInt8).count 43 = 1 by decide]
    exact ci_gt _ _ (by omega)
end Go.Proofs.YtilhpgjohpekkaaDoor.MoreP
namespace Go.Proofs.YtilhpgjohpekkaaDoor.Pure
set_option linter.unusedVariables false
set_option linter.unusedSimpArgs false
open Go.RowKit Go.Proofs.YtilhpgjohpekkaaDoor.PO Go.Proofs.YtilhpgjohpekkaaDoorW.PrintWords Go.Proofs.YtilhpgjohpekkaaDoorW.PrintLast
open PLib PSplit PathPure PMore MoreP

theorem wider_f (p o q : ByteArray) (less : Bool) (hp : p.size ≤ 1000000) (ho : o.size ≤ 1000000) (hq : q.size ≤ 1000000) (k : Nat) (hk : 600 ≤ k) (h : patR o = 0 → matchR o q = true ∧ (less = true → o = p ∨ moreR p o = 1)) :
    ciboriumlaw15_wider.f k p o q less = some true := by
  have e1 : path_CheckPattern.f k o = some (patR o) := ppat_f o ho k (by omega)
  have e2 : path_Match.f k o q = some (matchR o q) := pmatch_f o q ho hq k hk
  have e3 : path_More.f p o = some (moreR p o) := by unfold path_More.f; rw [if_pos ⟨hp, ho⟩]
  unfold ciboriumlaw15_wider.f
  rw [e1, Option.bind_some]
  by_cases h0 : patR o = 0
  · obtain ⟨h1, h2⟩ := h h0
    rw [if_pos h0, e2, Option.bind_some, h1, if_pos rfl]
    cases less with
    | false => rw [if_neg (by decide)]
    | true =>
      rw [if_pos rfl]
      by_cases h3 : o.toList = p.toList
      · rw [if_pos h3]
      · rcases h2 rfl with h4 | h4
        · exact absurd (by rw [h4]) h3
        · rw [if_neg h3, e3, Option.bind_some, h4]; rfl
  · rw [if_neg h0]
theorem sz43 : (⟨#[43]⟩ : ByteArray).size = 1 := rfl
theorem sz42 : (⟨#[42]⟩ : ByteArray).size = 1 := rfl
theorem wide_le (n : Nat) (h : n ≤ 1000000000) : n ≤ 9223372036854775807 := Nat.le_trans h (by decide)
theorem front_list (p : ByteArray) (n : Nat) : (p.extract 0 n).data.toList = p.data.toList.take n := by
  rw [extract_txt, txt_list, List.drop_zero]
theorem back_list (p : ByteArray) (n : Nat) : (p.extract n p.size).data.toList = p.data.toList.drop n := by
  rw [extract_txt, txt_list, size_data, List.take_length]
theorem wide_l (p q : ByteArray) (hm : matchR p q = true) (hq : q.size ≤ 1000000) (op : Bool) (hop : op = false → p.data.toList.count 42 = 0) (m : Nat) : ∀ (i f : Nat), i + m = p.size + 1 → f ≤ i →
    (i ≤ p.size → (∀ j (h1 : f ≤ j) (h2 : j < i) (h3 : j < p.data.toList.length), p.data.toList[j] ≠ 47) ∧ (f = 0 ∨ ∃ C, p.data.toList.take f = C ++ [47])) → ∀ k, 2 * m + 700 ≤ k →
    ciboriumlaw15_PathWider.l0 k p q (f : Int) op (i : Int) = some true := by
  have hd := size_data p
  have kp := ((match_is p q).1 hm).1
  have hps := (pat_size p kp).1
  induction m with
  | zero =>
    intro i f hi hf hv k hk
    obtain ⟨k, rfl⟩ : ∃ k', k = k' + 1 := ⟨k - 1, by omega⟩
    have ew : ciboriumlaw15_works.f k = some true := works_f k (by omega)
    rw [ciboriumlaw15_PathWider.l0, if_neg (by omega), ew]
    rfl
  | succ m ih =>
    intro i f hi hf hv k hk
    obtain ⟨k, rfl⟩ : ∃ k', k = k' + 2 := ⟨k - 2, by omega⟩
    obtain ⟨hv1, hv2⟩ := hv (by omega)
    have hsz : (p.extract 0 i).size = i := by rw [ByteArray.size_extract]; omega
    have hAB := (List.take_append_drop i p.data.toList).symm
    have ho1 : ((p.extract 0 i) ++ (⟨#[42]⟩ : ByteArray)).data.toList = p.data.toList.take i ++ [42] := by rw [app_list, front_list]
    have w1 : ciboriumlaw15_wider.f (k + 1) p ((p.extract 0 i) ++ (⟨#[42]⟩ : ByteArray)) q (!op) = some true :=
      wider_f p _ q _ (by omega) (by rw [ByteArray.size_append, hsz, sz42]; omega) hq (k + 1) (by omega) (fun ko => ⟨wide_star _ _ p _ q hAB ho1 hm ko, fun hl => Or.inr (less_star _ _ p _ hAB ho1 kp ko (hop (by simpa using hl)))⟩)
    have hw : wrap64 ((i : Int) + 1) = ((i + 1 : Nat) : Int) := by rw [IntWalk.wrap64_in _ (by omega)]; omega
    rw [ciboriumlaw15_PathWider.l0, if_pos (by omega), if_pos (by omega), Int.toNat_natCast, if_pos (wide_le _ (by omega)), w1, Option.bind_some, if_pos rfl]
    -- the step behind a piece
    have next : (i < p.size → ∃ C, p.data.toList.take (i + 1) = C ++ [47]) → ciboriumlaw15_PathWider.l0 k p q ((i + 1 : Nat) : Int) op ((i + 1 : Nat) : Int) = some true := fun hc =>
      ih (i + 1) (i + 1) (by omega) (Nat.le_refl _) (fun hle => ⟨fun j h1 h2 h3 => by omega, Or.inr (hc (by omega))⟩) k (by omega)
    have piece : (i < p.size → ∃ C, p.data.toList.take (i + 1) = C ++ [47]) → (p.data.toList.drop i = [] ∨ ∃ C, p.data.toList.drop i = 47 :: C) → ciboriumlaw15_PathWider.j3 (k + 1) p q (f : Int) op (i : Int) false = some true := by
      intro hc hB
      rw [ciboriumlaw15_PathWider.j3, if_neg (by decide), hw]
      by_cases hfi : f < i
      · have hw2 : wrap64 ((i : Int) - 1) = ((i - 1 : Nat) : Int) := by rw [IntWalk.wrap64_in _ (by omega)]; omega
        have hil : i - 1 < p.data.toList.length := by omega
        have b42 := bt_eq p (i - 1) hil 42
        rw [show ((42 : UInt8).toNat : Int) = 42 from rfl] at b42
        rw [if_pos (by omega), hw2, if_pos (by omega), if_pos (by omega)]
        by_cases h42 : p.data.toList[i - 1] = 42
        · rw [if_pos (b42.2 h42)]
          exact next hc
        · have hfz : (p.extract 0 f).size = f := by rw [ByteArray.size_extract]; omega
          have hiz : (p.extract i p.size).size = p.size - i := by rw [ByteArray.size_extract]; omega
          have hs2 : ((p.extract 0 f) ++ (⟨#[43]⟩ : ByteArray)).size = f + 1 := by rw [ByteArray.size_append, hfz, sz43]
          have hA : p.data.toList.take f = [] ∨ ∃ C, p.data.toList.take f = C ++ [47] := by
            rcases hv2 with h | h
            · exact Or.inl (by rw [h]; rfl)
            · exact Or.inr h
          have hx : ∀ y ∈ (p.data.toList.take i).drop f, y ≠ 47 := by
            intro y hy
            obtain ⟨j, hj, rfl⟩ := List.mem_iff_getElem.1 hy
            rw [List.length_drop, List.length_take] at hj
            rw [List.getElem_drop, List.getElem_take]
            exact hv1 (f + j) (by omega) (by omega) (by omega)
          have hl : ∀ g, (p.data.toList.take i).drop f ≠ g ++ [42] := by
            intro g e
            have h1 : ((p.data.toList.take i).drop f).length = i - f := by rw [List.length_drop, List.length_take]; omega
            have h2 : g.length = i - f - 1 := by rw [e, List.length_append, List.length_singleton] at h1; omega
            have h3 : ((p.data.toList.take i).drop f)[i - f - 1]'(by rw [h1]; omega) = 42 := by
              simp only [e]
              rw [List.getElem_append_right (by omega)]
              simp
            rw [List.getElem_drop, List.getElem_take] at h3
            simp only [show f + (i - f - 1) = i - 1 by omega] at h3
            exact h42 h3
          have hp3 : p.data.toList = p.data.toList.take f ++ (p.data.toList.take i).drop f ++ p.data.toList.drop i := by
            have : (p.data.toList.take i).take f = p.data.toList.take f := by rw [List.take_take, Nat.min_eq_left (by omega)]
            conv => lhs; rw [hAB, ← List.take_append_drop f (p.data.toList.take i), this]
          have ho2 : ((p.extract 0 f) ++ (⟨#[43]⟩ : ByteArray) ++ (p.extract i p.size)).data.toList = p.data.toList.take f ++ [43] ++ p.data.toList.drop i := by rw [app_list, app_list, front_list, back_list]
          have w2 : ciboriumlaw15_wider.f k p ((p.extract 0 f) ++ (⟨#[43]⟩ : ByteArray) ++ (p.extract i p.size)) q true = some true :=
            wider_f p _ q _ (by omega) (by rw [ByteArray.size_append, hs2, hiz]; omega) hq k (by omega) (fun ko => ⟨wide_plus _ _ _ p _ q hA hB hx hl hp3 ho2 hm ko, fun _ => by
              by_cases h43 : (p.data.toList.take i).drop f = [43]
              · refine Or.inl (ByteArray.ext (Array.toList_inj.1 ?_))
                rw [ho2]
                conv => rhs; rw [hp3, h43]
              · exact Or.inr (less_plus _ _ _ p _ hA hB hx hl hp3 ho2 kp ko h43)⟩)
          rw [if_neg (fun e => h42 (b42.1 e)), if_pos (by omega), if_pos (by omega), Int.toNat_natCast, Int.toNat_natCast, if_pos (wide_le _ (by omega)), if_pos (by omega), if_pos (by omega), if_pos (wide_le _ (by rw [hs2, hiz]; omega)), w2, Option.bind_some, if_pos rfl]
          exact next hc
      · rw [if_neg (by omega)]
        exact next hc
    by_cases hlt : i < p.size
    · have hil : i < p.data.toList.length := by omega
      have b47 := bt_eq p i hil 47
      rw [show ((47 : UInt8).toNat : Int) = 47 from rfl] at b47
      rw [if_pos (by omega)]
      by_cases h47 : p.data.toList[i] = 47
      · have : (bt p (i : Int) != 47) = false := by rw [b47.2 h47]; rfl
        rw [this]
        exact piece (fun _ => ⟨p.data.toList.take i, by rw [List.take_succ_eq_append_getElem hil, h47]⟩) (Or.inr ⟨p.data.toList.drop (i + 1), by rw [List.drop_eq_getElem_cons hil, h47]⟩)
      · have : (bt p (i : Int) != 47) = true := by
          rw [bne_iff_ne]
          exact fun e => h47 (b47.1 e)
        rw [this, ciboriumlaw15_PathWider.j3, if_pos rfl, hw]
        refine ih (i + 1) f (by omega) (by omega) (fun hle => ⟨fun j h1 h2 h3 => ?_, hv2⟩) k (by omega)
        rcases Nat.lt_or_ge j i with h | h
        · exact hv1 j h1 h h3
        · obtain rfl : j = i := by omega
          exact h47
    · rw [if_neg (by omega)]
      exact piece (fun h => absurd h hlt) (Or.inl (List.drop_eq_nil_of_le (by omega)))
theorem PathWider : ciboriumlaw15_PathWider.Pure := by
  intro p q h0 h1
  refine ⟨3000, ?_⟩
  have hw : wrap64 ((p.size : Int) + (q.size : Int)) = (p.size : Int) + (q.size : Int) := IntWalk.wrap64_in _ (by omega)
  have ew : ciboriumlaw15_works.f 2999 = some true := works_f 2999 (by decide)
  have hj : ciboriumlaw15_PathWider.j0 3000 p q true = some true := by
    show ciboriumlaw15_PathWider.j0 (2999 + 1) p q true = some true
    rw [ciboriumlaw15_PathWider.j0, if_pos rfl, ew]
    rfl
  unfold ciboriumlaw15_PathWider.f
  rw [hw]
  by_cases h : (p.size : Int) + (q.size : Int) > 65536
  · rw [if_pos h, hj]
  · have em : path_Match.f 3000 p q = some (matchR p q) := pmatch_f p q (by omega) (by omega) 3000 (by decide)
    rw [if_neg h, em, Option.bind_some]
    cases hm : matchR p q with
    | false => exact hj
    | true =>
      have kp := ((match_is p q).1 hm).1
      have hps := pat_size p kp
      have hd := size_data p
      obtain ⟨C, b, e1, e2⟩ := pat_end p kp
      have hl : p.data.toList.length = C.length + 1 := by rw [e1, List.length_append, List.length_singleton]
      have hw2 : wrap64 ((p.size : Int) - 1) = ((p.size - 1 : Nat) : Int) := by rw [IntWalk.wrap64_in _ (by omega)]; omega
      have hb := bt_eq p (p.size - 1) (by omega) 42
      rw [show ((42 : UInt8).toNat : Int) = 42 from rfl] at hb
      have hx : p.data.toList[p.size - 1]'(by omega) = b := by
        simp only [e1, show p.size - 1 = C.length by omega]
        rw [List.getElem_append_right (Nat.le_refl _)]
        simp
      rw [hx] at hb
      show ciboriumlaw15_PathWider.j0 (2999 + 1) p q false = some true
      rw [ciboriumlaw15_PathWider.j0, if_neg (by decide), if_neg (by rw [toL, e1]; simp), hw2, if_pos (by omega), if_pos (by omega)]
      show ciboriumlaw15_PathWider.j1 (2998 + 1) p q 0 _ = some true
      rw [ciboriumlaw15_PathWider.j1]
      exact wide_l p q hm (by omega) _ (fun ho => by
        rw [e2, if_neg]
        intro hb42
        rw [hb.2 hb42] at ho
        exact absurd ho (by decide)) (p.size + 1) 0 0 (by omega) (Nat.le_refl _) (fun _ => ⟨fun j h1 h2 h3 => by omega, Or.inl rfl⟩) 2998 (by omega)
end Go.Proofs.YtilhpgjohpekkaaDoor.Pure
