/- It is proved here that a path's segments are joined as the path, and a list that is joined is split as the list. -/
import Derived.Test.YtilhpgjohpekkaaDoorPurePathJoins
namespace Go.Proofs.YtilhpgjohpekkaaDoor.Pure
set_option linter.unusedVariables false
set_option linter.unusedSimpArgs false
open Go.RowKit Go.Proofs.YtilhpgjohpekkaaDoorW.PrintWords Go.Proofs.YtilhpgjohpekkaaDoorW.PrintLast Go.Proofs.YtilhpgjohpekkaaDoorW.PrintMore
open PLib PSplit PathPure

/-- A list of bytes with a slash behind its first part. -/
theorem segs_app (x l : List UInt8) (h : ∀ y ∈ x, y ≠ 47) : segs 47 (x ++ 47 :: l) = x :: segs 47 l := by
  induction x with
  | nil => show segs 47 (47 :: l) = _; rw [segs, if_pos rfl]
  | cons a x ih =>
    rw [List.cons_append, segs, if_neg (h a (by simp)), ih (fun y hy => h y (by simp [hy]))]
theorem segs_fold (l : List (List UInt8)) : ∀ x : List UInt8, (∀ y ∈ x, y ≠ 47) → (∀ z ∈ l, ∀ y ∈ z, y ≠ 47) → segs 47 (l.foldl (fun a y => (a ++ [47]) ++ y) x) = x :: l := by
  induction l with
  | nil => intro x h _; exact segs_none 47 x h
  | cons z l ih =>
    intro x h hl
    rw [List.foldl_cons, fold_front, List.append_assoc, List.singleton_append, segs_app x _ h, ih z (hl z (by simp)) (fun z' hz => hl z' (by simp [hz]))]
theorem seg_no (x : ByteArray) (h : segB x = true) : ∀ y ∈ x.data.toList, y ≠ 47 := by
  intro y hy e
  unfold segB letS at h
  rw [Bool.and_eq_true, Bool.and_eq_true, List.all_eq_true] at h
  have := h.1.1 ((y.toNat : Nat) : Int) (by unfold bytesOf; exact List.mem_map.2 ⟨y, hy, rfl⟩)
  rw [e] at this
  exact absurd this (by decide)
theorem pieces_join (x : ByteArray) (l : List ByteArray) (h : (x :: l).all segB = true) : pieces 47 (joinB (x :: l)) = x :: l := by
  have hm : ∀ l : List ByteArray, (l.map (·.data.toList)).map txt = l := fun l => by rw [List.map_map]; exact (List.map_congr_left (fun a _ => txt_data a)).trans (List.map_id' l)
  rw [List.all_eq_true] at h
  have hj : (joinB (x :: l)).data.toList = (l.map (·.data.toList)).foldl (fun a y => (a ++ [47]) ++ y) x.data.toList := by
    rw [joinB]
    conv => lhs; rw [← hm l]
    rw [fold_list]
  unfold pieces
  rw [hj, segs_fold _ _ (seg_no x (h x (by simp))) (fun z hz y hy => by
    obtain ⟨w, hw, rfl⟩ := List.mem_map.1 hz
    exact seg_no w (h w (by simp [hw])) y hy), List.map_cons, txt_data, hm]
theorem pieces_count (s : ByteArray) : (pieces 47 s).length = s.data.toList.count 47 + 1 := by
  unfold pieces
  rw [List.length_map, segs_len]
/-- A segment ends in no star. -/
theorem seg_star (x : ByteArray) (h : segB x = true) : starB x = false := by
  rw [Bool.eq_false_iff]
  intro hs
  unfold starB at hs
  rw [Bool.and_eq_true, Bool.and_eq_true, decide_eq_true_eq, decide_eq_true_eq] at hs
  obtain ⟨h0, h1, _⟩ := hs
  unfold segB letS at h
  rw [Bool.and_eq_true, Bool.and_eq_true, List.all_eq_true] at h
  have hl := bytesOf_length x
  have hd := size_data x
  have hb := bytes_at x (x.size - 1) (by omega)
  rw [h1] at hb
  have := h.1.1 (42 : Int) (by rw [hb]; exact List.getElem_mem _)
  exact absurd this (by decide)
theorem mt_self (L : List ByteArray) (h : L.all segB = true) : mt L L = true := by
  induction L with
  | nil => rfl
  | cons x L ih =>
    rw [List.all_cons, Bool.and_eq_true] at h
    rw [mt_cons, seg_star x h.1, Bool.and_false, if_neg (by decide), decide_eq_true (show x.toList = x.toList from rfl), Bool.or_true, Bool.true_and]
    exact ih h.2
theorem ok_all (n : Nat) (L : List ByteArray) : ∀ i, L.all segB = true → okAll n i L = true := by
  induction L with
  | nil => intro i _; rfl
  | cons x L ih =>
    intro i h
    rw [List.all_cons, Bool.and_eq_true] at h
    rw [okAll, okP, h.1, Bool.true_or, Bool.true_and]
    exact ih (i + 1) h.2
/-- What a path is. -/
theorem path_facts (s : ByteArray) (h : (splitR s).2 = 0) : longB s = false ∧ (pieces 47 s).all segB = true ∧ (splitR s).1 = pieces 47 s ∧ s.size ≤ 128 ∧ (pieces 47 s).length ≤ 16 := by
  unfold splitR at h ⊢
  cases hL : longB s with
  | true => rw [hL, if_pos rfl] at h; exact absurd h (by decide)
  | false =>
    rw [hL, if_neg (by decide)] at h
    by_cases ha : (pieces 47 s).all segB = true
    · refine ⟨rfl, ha, ?_, small s hL, ?_⟩
      · rw [if_neg (by decide), if_pos ha]
      · rw [pieces_count]
        unfold longB at hL
        rw [Bool.or_eq_false_iff, decide_eq_false_iff_not, decide_eq_false_iff_not] at hL
        omega
    · rw [if_neg ha] at h
      exact absurd h (by decide)
theorem join_split (s : ByteArray) (h : (splitR s).2 = 0) : joinR (pieces 47 s) = (s, 0) := by
  obtain ⟨_, ha, _, hs, hl⟩ := path_facts s h
  have hne := pieces_ne s
  unfold joinR
  rw [if_neg (by omega), join_pieces, if_neg (by omega), if_pos ha, if_neg (fun h0 => hne (List.eq_nil_of_length_eq_zero h0))]
theorem match_self (s : ByteArray) (h : (splitR s).2 = 0) : patR s = 0 ∧ matchR s s = true := by
  obtain ⟨hL, ha, _, _, _⟩ := path_facts s h
  have hp : patR s = 0 := by
    unfold patR
    rw [hL, if_neg (by decide), if_pos (ok_all _ _ 0 ha)]
  refine ⟨hp, ?_⟩
  unfold matchR
  rw [decide_eq_true hp, decide_eq_true h, mt_self _ ha]
  rfl
theorem match_more (s : ByteArray) : matchR (s ++ (⟨#[47, 97]⟩ : ByteArray)) s = false := by
  rw [Bool.eq_false_iff]
  intro h
  unfold matchR at h
  rw [Bool.and_eq_true, Bool.and_eq_true] at h
  have h1 := mt_le _ _ h.2.2
  rw [pieces_count, pieces_count, app_list, List.count_append] at h1
  have h2 : (⟨#[47, 97]⟩ : ByteArray).data.toList.count 47 = 1 := by decide
  omega
theorem join_err (xs : List ByteArray) (h : (joinR xs).2 ≠ 0) : (joinR xs).1 = ⟨#[]⟩ := by
  unfold joinR at h ⊢
  split
  · rfl
  · rename_i h1
    rw [if_neg h1] at h
    split
    · rfl
    · rename_i h2
      rw [if_neg h2] at h
      split
      · rename_i h3
        rw [if_pos h3] at h
        split
        · rfl
        · rename_i h4
          rw [if_neg h4] at h
          exact absurd rfl h
      · rfl
theorem join_ok (xs : List ByteArray) (h : (joinR xs).2 = 0) : xs.length ≤ 16 ∧ (splitR (joinR xs).1) = (xs, 0) := by
  unfold joinR at h ⊢
  by_cases h1 : 16 < xs.length
  · rw [if_pos h1] at h; exact absurd h (by decide)
  · rw [if_neg h1] at h ⊢
    by_cases h2 : 128 < (joinB xs).size
    · rw [if_pos h2] at h; exact absurd h (by decide)
    · rw [if_neg h2] at h ⊢
      by_cases h3 : xs.all segB = true
      · rw [if_pos h3] at h ⊢
        by_cases h4 : xs.length = 0
        · rw [if_pos h4] at h; exact absurd h (by decide)
        · rw [if_neg h4]
          refine ⟨by omega, ?_⟩
          cases xs with
          | nil => exact absurd rfl h4
          | cons x l =>
            have hp := pieces_join x l h3
            have hL : longB (joinB (x :: l)) = false := by
              unfold longB
              have hc := pieces_count (joinB (x :: l))
              rw [hp] at hc
              rw [decide_eq_false h2, decide_eq_false (by omega)]
              rfl
            show splitR (joinB (x :: l)) = _
            unfold splitR
            rw [hL, if_neg (by decide), hp, if_pos h3]
      · rw [if_neg h3] at h; exact absurd h (by decide)
theorem bj1 (xs : List ByteArray) (hl : xs.length ≤ 100) (hp : ∀ x ∈ xs, x.size ≤ 140737488355328) (k : Nat) (hk : 1000 ≤ k) : PJ.ciboriumlaw15_PathBack.j1 k xs = some true := by
  obtain ⟨k, rfl⟩ : ∃ k', k = k' + 1 := ⟨k - 1, by omega⟩
  rw [PJ.ciboriumlaw15_PathBack.j1, copy_f xs (by omega), Option.bind_some, pjoin_f xs (by omega) hp k (by omega), Option.bind_some, wk_f k (by omega)]
  by_cases h : (joinR xs).2 = 0
  · have hs : PJ.path_Split.f (joinR xs).1 = some (splitR (joinR xs).1) := rfl
    rw [if_pos h, hs, Option.bind_some, (join_ok xs h).2, if_pos rfl, eqt_f xs (by omega) k (by omega), Option.bind_some, if_pos rfl]
    rfl
  · rw [if_neg h, join_err xs h, if_pos (by rw [toL])]
    rfl
theorem big_le2 (n : Nat) (h : n ≤ 1000000000) : n ≤ 9223372036854775807 := Nat.le_trans h (by decide)
theorem bj0 (s : ByteArray) (hs : s.size ≤ 65536) (xs : List ByteArray) (hl : xs.length ≤ 100) (hp : ∀ x ∈ xs, x.size ≤ 140737488355328) (k : Nat) (hk : 2000 ≤ k) : PJ.ciboriumlaw15_PathBack.j0 k s xs false = some true := by
  obtain ⟨k, rfl⟩ : ∃ k', k = k' + 1 := ⟨k - 1, by omega⟩
  have hsp : PJ.path_Split.f s = some (splitR s) := rfl
  rw [PJ.ciboriumlaw15_PathBack.j0, if_neg (by decide), hsp, Option.bind_some, bj1 xs hl hp k (by omega)]
  by_cases h : (splitR s).2 = 0
  · obtain ⟨_, ha, h1, h8, h16⟩ := path_facts s h
    have hsz := fun x hx => Nat.le_trans (piece_size 47 s x hx) (show s.size ≤ 140737488355328 by omega)
    have hcp : PJ.path_CheckPattern.f k s = some (patR s) := ppat_f s (by omega) k (by omega)
    have hm : PJ.path_Match.f k s s = some (matchR s s) := pmatch_f s s (by omega) (by omega) k (by omega)
    have hA : s.size + 2 ≤ 9223372036854775807 := big_le2 _ (by omega)
    have hz : (s ++ (⟨#[47, 97]⟩ : ByteArray)).size ≤ 1000000 := by
      rw [ByteArray.size_append, show (⟨#[47, 97]⟩ : ByteArray).size = 2 from rfl]
      omega
    have hm2 : PJ.path_Match.f k (s ++ (⟨#[47, 97]⟩ : ByteArray)) s = some (matchR (s ++ (⟨#[47, 97]⟩ : ByteArray)) s) := pmatch_f _ s hz (by omega) k (by omega)
    rw [if_pos h, h1, pjoin_f (pieces 47 s) (by omega) hsz k (by omega), Option.bind_some, join_split s h, if_pos rfl, if_pos rfl, hcp, Option.bind_some, if_pos (match_self s h).1, hm, Option.bind_some, (match_self s h).2, if_pos rfl, if_pos hA, hm2, Option.bind_some, match_more, if_neg (by decide)]
  · rw [if_neg h]
theorem PathBack (s : ByteArray) (xs : List ByteArray) (hs : s.size ≤ 140737488351232) (hl : xs.length ≤ 140737488355328) (hp : ∀ x ∈ xs, x.size ≤ 140737488355328) : ∃ k, PJ.ciboriumlaw15_PathBack.f k s xs = some true := by
  refine ⟨2000, ?_⟩
  have ht : PJ.ciboriumlaw15_PathBack.j0 2000 s xs true = some true := by
    show PJ.ciboriumlaw15_PathBack.j0 (1999 + 1) s xs true = some true
    rw [PJ.ciboriumlaw15_PathBack.j0, if_pos rfl, wk_f 1999 (by decide)]
    rfl
  unfold PJ.ciboriumlaw15_PathBack.f
  by_cases h : (s.size : Int) > 65536
  · rw [if_pos h, ht]
  · rw [if_neg h]
    by_cases h2 : (xs.length : Int) > 100
    · rw [decide_eq_true h2, ht]
    · rw [decide_eq_false h2]
      exact bj0 s (by omega) xs (by omega) hp 2000 (by decide)
end Go.Proofs.YtilhpgjohpekkaaDoor.Pure
