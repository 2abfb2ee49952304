/- What is said here: a path says more than all that is none. -/
import Derived.Test.YtilhpgjohpekkaaDoorMoreP
namespace Go.Proofs.YtilhpgjohpekkaaDoor.MoreP
set_option linter.unusedVariables false
set_option linter.unusedSimpArgs false
open Go.RowKit Go.Proofs.YtilhpgjohpekkaaDoorW.PrintWords Go.Proofs.YtilhpgjohpekkaaDoorW.PrintLast Go.Proofs.YtilhpgjohpekkaaDoorW.PrintMore
open PLib PSplit PathPure PMore

theorem seg_mem (l : List UInt8) : ∀ s ∈ segs 47 l, ∀ y ∈ s, y ∈ l := by
  induction l with
  | nil =>
    intro s hs y hy
    rw [segs, List.mem_singleton] at hs
    rw [hs] at hy
    exact absurd hy (by simp)
  | cons x l ih =>
    intro s hs y hy
    obtain ⟨t, R, e⟩ := segs_head l
    rw [segs, e] at hs
    rw [e] at ih
    by_cases hx : x = 47
    · rw [if_pos hx] at hs
      rcases List.mem_cons.1 hs with rfl | hs
      · exact absurd hy (by simp)
      · exact List.mem_cons_of_mem _ (ih s hs y hy)
    · rw [if_neg hx] at hs
      have hs : s ∈ (x :: t) :: R := hs
      rcases List.mem_cons.1 hs with rfl | hs
      · rcases List.mem_cons.1 hy with rfl | hy
        · simp
        · exact List.mem_cons_of_mem _ (ih t (by simp) y hy)
      · exact List.mem_cons_of_mem _ (ih s (by simp [hs]) y hy)
theorem wild_neg (l : List UInt8) (h : wild l = -1) : ∀ y ∈ l, y ≠ 42 ∧ y ≠ 43 := by
  induction l with
  | nil => intro y hy; simp at hy
  | cons x l ih =>
    intro y hy
    rw [wild_cons] at h
    have hg := wild_ge l
    by_cases hx : x = 43 ∨ x = 42
    · rw [if_pos hx] at h; exact absurd h (by decide)
    · rw [if_neg hx] at h
      by_cases h2 : wild l = -1
      · rcases List.mem_cons.1 hy with rfl | hy
        · exact ⟨fun e => hx (Or.inr e), fun e => hx (Or.inl e)⟩
        · exact ih h2 y hy
      · rw [if_neg h2] at h; omega
theorem ok_all (n : Nat) (L : List ByteArray) : ∀ i, L.all segB = true → okAll n i L = true := by
  induction L with
  | nil => intro i _; rfl
  | cons x L ih =>
    intro i h
    rw [List.all_cons, Bool.and_eq_true] at h
    rw [okAll, okP, h.1, Bool.true_or, Bool.true_and]
    exact ih (i + 1) h.2
/-- What a path is. -/
theorem path_facts (s : ByteArray) (h : (splitR s).2 = 0) : longB s = false ∧ (pieces 47 s).all segB = true := by
  unfold splitR at h
  cases hL : longB s with
  | true => rw [hL, if_pos rfl] at h; exact absurd h (by decide)
  | false =>
    rw [hL, if_neg (by decide)] at h
    by_cases ha : (pieces 47 s).all segB = true
    · exact ⟨rfl, ha⟩
    · rw [if_neg ha] at h
      exact absurd h (by decide)
theorem path_pat (s : ByteArray) (h : (splitR s).2 = 0) : patR s = 0 := by
  obtain ⟨hL, ha⟩ := path_facts s h
  unfold patR
  rw [hL, if_neg (by decide), if_pos (ok_all _ _ 0 ha)]
theorem path_wild (s : ByteArray) (h : (splitR s).2 = 0) : wild s.data.toList = -1 := by
  apply wild_none
  intro y hy
  rcases mem_segs _ y hy with rfl | ⟨x, hx, hyx⟩
  · exact ⟨by decide, by decide⟩
  · have ha := (path_facts s h).2
    rw [List.all_eq_true] at ha
    have hs : seg x := ha (txt x) (List.mem_map.2 ⟨x, hx, rfl⟩)
    have := (seg_none x hs).2 y hyx
    exact ⟨this.1, this.2.1⟩
theorem okL_mem (L : List (List UInt8)) : okL L → ∀ x ∈ L, seg x ∨ x = [43] ∨ star x := by
  induction L with
  | nil => intro _ x hx; simp at hx
  | cons a L ih =>
    intro h x hx
    cases L with
    | nil =>
      rw [List.mem_singleton] at hx
      rw [hx]; exact h
    | cons b L =>
      rw [okL_cons] at h
      rcases List.mem_cons.1 hx with rfl | hx
      · rcases h.1 with g | g
        · exact Or.inl g
        · exact Or.inr (Or.inl g)
      · exact ih h.2 x hx
theorem pat_path (s : ByteArray) (h : patR s = 0) (hw : wild s.data.toList = -1) : (splitR s).2 = 0 := by
  have hn := wild_neg _ hw
  have hL := (pat_facts s h).1
  have hok := okL_mem _ (pat_ok s h)
  have ha : (pieces 47 s).all segB = true := by
    rw [List.all_eq_true]
    intro z hz
    obtain ⟨x, hx, rfl⟩ := List.mem_map.1 hz
    rcases hok x hx with g | g | g
    · exact g
    · have := hn 43 (seg_mem _ x hx 43 (by rw [g]; simp))
      exact absurd rfl this.2
    · obtain ⟨y, hy, _⟩ := star_is x g
      have := hn 42 (seg_mem _ x hx 42 (by rw [hy]; simp))
      exact absurd rfl this.1
  unfold splitR
  rw [hL, if_neg (by decide), if_pos ha]
theorem ci_gt (x y : Int) (h : y < x) : Lib.compareInt x y = 1 := by
  rcases ci_cases x y with ⟨g, e⟩ | ⟨g, e⟩ | ⟨g, e⟩ <;> first | exact e | omega
theorem more_path (a b : ByteArray) (ha : (splitR a).2 = 0) (hb : (splitR b).2 ≠ 0) : moreR a b = 1 := by
  unfold moreR
  rw [if_pos (path_pat a ha)]
  by_cases h : patR b = 0
  · have hwb : wild b.data.toList ≠ -1 := fun e => hb (pat_path b h e)
    have hg := wild_ge b.data.toList
    have hl := wild_some b.data.toList (by omega)
    have hs := (pat_size b h).1
    rw [size_data] at hs
    have h1 : q1 a b = 1 := by
      unfold q1
      rw [first_is, first_is, path_wild a ha, if_neg (by decide), if_pos (by omega)]
      exact ci_gt _ _ (by omega)
    rw [if_pos h]
    unfold moreQ
    rw [h1, if_pos (by decide)]
  · rw [if_neg h]
end Go.Proofs.YtilhpgjohpekkaaDoor.MoreP
