/- It is proved here that what path.Under and the reference tell of any two texts is the same. -/
import Derived.Test.YtilhpgjohpekkaaDoorPCx5
import Derived.Test.YtilhpgjohpekkaaDoorPathPure
namespace Go.Proofs.YtilhpgjohpekkaaDoor.Pure
set_option linter.unusedVariables false
set_option linter.unusedSimpArgs false
open Go.RowKit Go.Proofs.YtilhpgjohpekkaaDoor.PC Go.Proofs.YtilhpgjohpekkaaDoorW.PrintWords Go.Proofs.YtilhpgjohpekkaaDoorW.PrintLast
open PLib PSplit PathPure

/-- A list that ends in c has an empty last part. -/
theorem segs_end (c : UInt8) (l : List UInt8) : [] ∈ segs c (l ++ [c]) := by
  induction l with
  | nil => show [] ∈ segs c [c]; rw [segs, if_pos rfl]; simp
  | cons x l ih =>
    rw [List.cons_append, segs]
    split
    · simp
    · rename_i hx
      -- the last part is not the first one
      have h2 : ∀ l : List UInt8, ∃ h t, segs c (l ++ [c]) = h :: t ∧ [] ∈ t := by
        intro l
        induction l with
        | nil => exact ⟨[], [[]], by show segs c [c] = _; rw [segs, if_pos rfl]; rfl, by simp⟩
        | cons y l ih =>
          obtain ⟨h, t, e, ht⟩ := ih
          rw [List.cons_append, segs]
          split
          · exact ⟨[], h :: t, by rw [e], by simp [ht]⟩
          · rw [e]
            exact ⟨y :: h, t, rfl, ht⟩
      obtain ⟨h, t, e, ht⟩ := h2 l
      rw [e]
      simp [ht]
theorem no_end (s : ByteArray) (l : List UInt8) (h : s.data.toList = l ++ [47]) : (splitR s).2 ≠ 0 := by
  unfold splitR
  split
  · decide
  · rw [if_neg]
    · decide
    · intro ha
      rw [List.all_eq_true] at ha
      have := ha (txt []) (List.mem_map.2 ⟨[], by rw [h]; exact segs_end 47 l, rfl⟩)
      exact absurd this (by decide +kernel)
theorem toL (s : ByteArray) : s.toList = s.data.toList := ByteArray.toList_eq s
theorem ext_list (s : ByteArray) (a b : Nat) : (s.extract a b).toList = (s.data.toList.take b).drop a := by
  rw [toL, extract_txt, txt_list]
theorem list_inj {a b : ByteArray} (h : a.toList = b.toList) : a = b := by
  rw [toL, toL] at h
  exact ByteArray.ext (Array.toList_inj.1 h)
/-- CutSuffix at one byte. -/
theorem cutSuffix_f (s : ByteArray) (c : UInt8) (hN : s.size ≤ 1000000) : strings_CutSuffix.f s ⟨#[c]⟩ = some (if s.size ≠ 0 ∧ bt s ((s.size - 1 : Nat) : Int) = (c.toNat : Int) then (s.extract 0 (s.size - 1), true) else (s, false)) := by
  have hd := size_data s
  have h1 : (⟨#[c]⟩ : ByteArray).size = 1 := rfl
  unfold strings_CutSuffix.f stringslite_CutSuffix.f stringslite_HasSuffix.f
  rw [h1]
  by_cases h0 : s.size = 0
  · rw [if_neg (by omega), Option.bind_some, if_neg (by decide), Option.bind_some, if_neg (by omega)]
  · have hw : wrap64 ((s.size : Int) - ((1 : Nat) : Int)) = ((s.size - 1 : Nat) : Int) := by rw [IntWalk.wrap64_in _ (by omega)]; omega
    rw [hw, if_pos (by omega), if_pos (by omega), if_pos (by omega), Option.bind_some, Int.toNat_natCast]
    have hlast : ((s.extract (s.size - 1) s.size).toList == (⟨#[c]⟩ : ByteArray).toList) = decide (bt s ((s.size - 1 : Nat) : Int) = (c.toNat : Int)) := by
      have hb := bt_eq s (s.data.toList.length - 1) (by omega) c
      rw [ext_list, hd, List.take_length, show s.data.toList.drop (s.data.toList.length - 1) = [s.data.toList[s.data.toList.length - 1]'(by omega)] by
        rw [List.drop_eq_getElem_cons (by omega), List.drop_eq_nil_of_le (by omega)]]
      rw [Bool.eq_iff_iff, beq_iff_eq, decide_eq_true_eq, hb, show (⟨#[c]⟩ : ByteArray).toList = [c] by rw [toL], List.cons.injEq]
      simp only [and_true]
    rw [hlast]
    by_cases hc : bt s ((s.size - 1 : Nat) : Int) = (c.toNat : Int)
    · rw [decide_eq_true hc, if_pos rfl, if_pos (by omega), if_pos (by omega), Option.bind_some, if_pos ⟨h0, hc⟩]
    · rw [decide_eq_false hc, if_neg (by decide), Option.bind_some, if_neg (fun h => hc h.2)]
theorem cutPrefix_f (a0 a1 : ByteArray) : strings_CutPrefix.f a1 a0 = some (if a0.size ≤ a1.size ∧ (a1.extract 0 a0.size).toList = a0.toList then (a1.extract a0.size a1.size, true) else (a1, false)) := by
  unfold strings_CutPrefix.f stringslite_CutPrefix.f stringslite_HasPrefix.f
  by_cases h : a0.size ≤ a1.size
  · rw [if_pos (by omega), if_pos (by omega), if_pos (by omega), Option.bind_some, Int.toNat_natCast]
    by_cases h2 : (a1.extract 0 a0.size).toList = a0.toList
    · rw [beq_iff_eq.mpr h2, if_pos rfl, if_pos (by omega), if_pos (by omega), Option.bind_some, if_pos ⟨h, h2⟩]
    · rw [beq_eq_false_iff_ne.mpr h2, if_neg (by decide), Option.bind_some, if_neg (fun h => h2 h.2)]
  · rw [if_neg (by omega), Option.bind_some, if_neg (by decide), Option.bind_some, if_neg (fun h' => h h'.1)]

/-- What stands behind a mount. -/
def underR (m p : ByteArray) : ByteArray × Bool :=
  if m.size ≠ 0 ∧ bt m ((m.size - 1 : Nat) : Int) = 47 ∧ (splitR (m.extract 0 (m.size - 1))).2 = 0 ∧ (splitR p).2 = 0 ∧ m.size ≤ p.size ∧ (p.extract 0 m.size).toList = m.toList then (p.extract m.size p.size, true) else (⟨#[]⟩, false)
theorem pun_f (m p : ByteArray) (hN : m.size ≤ 1000000) (k : Nat) (hk : 2 ≤ k) : path_Under.f k m p = some (underR m p) := by
  obtain ⟨k, rfl⟩ : ∃ k', k = k' + 1 := ⟨k - 1, by omega⟩
  unfold path_Under.f underR
  rw [show (⟨#[47]⟩ : ByteArray) = ⟨#[(47 : UInt8)]⟩ from rfl, cutSuffix_f m 47 hN, Option.bind_some, show ((47 : UInt8).toNat : Int) = 47 from rfl]
  by_cases h1 : m.size ≠ 0 ∧ bt m ((m.size - 1 : Nat) : Int) = 47
  · rw [if_pos h1, if_pos rfl, pcheck_f, Option.bind_some]
    by_cases h2 : (splitR (m.extract 0 (m.size - 1))).2 = 0
    · rw [if_pos h2, pcheck_f, Option.bind_some, path_Under.j0]
      by_cases h3 : (splitR p).2 = 0
      · rw [if_neg (by rw [h3]; decide), cutPrefix_f, Option.bind_some]
        by_cases h4 : m.size ≤ p.size ∧ (p.extract 0 m.size).toList = m.toList
        · rw [if_pos h4, if_pos rfl, if_pos ⟨h1.1, h1.2, h2, h3, h4.1, h4.2⟩]
        · rw [if_neg h4, if_neg (by simp), if_neg (fun h => h4 ⟨h.2.2.2.2.1, h.2.2.2.2.2⟩)]
      · rw [if_pos (by simpa using h3), if_neg (fun h => h3 h.2.2.2.1)]
    · rw [if_neg h2, path_Under.j0, if_pos rfl, if_neg (fun h => h2 h.2.2.1)]
  · rw [if_neg h1, if_neg (by simp), path_Under.j0, if_pos rfl, if_neg (fun h => h1 ⟨h.1, h.2.1⟩)]
theorem run_f (m p : ByteArray) (hN : m.size ≤ 1000000) (hP : p.size ≤ 1000000) (k : Nat) (hk : 310 ≤ k) : ciboriumref15_Under.f k m p = some (underR m p) := by
  obtain ⟨k, rfl⟩ : ∃ k', k = k' + 1 := ⟨k - 1, by omega⟩
  have hd := size_data m
  unfold ciboriumref15_Under.f underR
  by_cases h0 : m.size = 0
  · rw [if_pos (by omega), ciboriumref15_Under.j0, if_pos rfl, if_neg (fun h => h.1 h0)]
  · have hw : wrap64 ((m.size : Int) - 1) = ((m.size - 1 : Nat) : Int) := by rw [IntWalk.wrap64_in _ (by omega)]; omega
    rw [if_neg (by omega), hw, if_pos (by omega), if_pos (by omega)]
    by_cases h1 : bt m ((m.size - 1 : Nat) : Int) = 47
    · rw [if_pos h1, if_pos (by omega), Int.toNat_natCast, check_f _ _ (by omega), Option.bind_some]
      by_cases h2 : (splitR (m.extract 0 (m.size - 1))).2 = 0
      · rw [if_pos h2, check_f _ _ (by omega), Option.bind_some, ciboriumref15_Under.j0]
        by_cases h3 : (splitR p).2 = 0
        · rw [if_neg (by rw [h3]; decide)]
          by_cases h4 : p.size ≤ m.size
          · rw [if_pos (by omega), if_neg]
            rintro ⟨_, _, _, _, h5, h6⟩
            have he : p = m := by
              refine list_inj ?_
              rw [← h6, ext_list, show m.size = p.size by omega, size_data p, List.take_length, toL]
              rfl
            have hl : m.data.toList = m.data.toList.take (m.data.toList.length - 1) ++ [47] := by
              have hb := (bt_eq m (m.size - 1) (by omega) 47).1 h1
              have e := List.take_append_drop (m.data.toList.length - 1) m.data.toList
              rw [List.drop_eq_getElem_cons (by omega), List.drop_eq_nil_of_le (by omega)] at e
              simp only [hd] at hb
              rw [hb] at e
              exact e.symm
            exact no_end m _ hl (by rw [← he]; exact h3)
          · rw [if_neg (by omega), if_pos (by omega), if_pos (by omega), Int.toNat_natCast]
            by_cases h5 : (p.extract 0 m.size).toList = m.toList
            · rw [if_pos h5, if_pos ⟨h0, h1, h2, h3, by omega, h5⟩]
            · rw [if_neg h5, if_neg (fun h => h5 h.2.2.2.2.2)]
        · rw [if_pos (by simpa using h3), if_neg (fun h => h3 h.2.2.2.1)]
      · rw [if_neg h2, ciboriumref15_Under.j0, if_pos rfl, if_neg (fun h => h2 h.2.2.1)]
    · rw [if_neg h1, ciboriumref15_Under.j0, if_pos rfl, if_neg (fun h => h1 h.2.1)]

theorem PathUnder : ciboriumlaw15_PathUnder.Pure := by
  intro a0 a1 h0 h1
  refine ⟨400, ?_⟩
  have hw : wrap64 ((a0.size : Int) + (a1.size : Int)) = (a0.size : Int) + (a1.size : Int) := IntWalk.wrap64_in _ (by omega)
  unfold ciboriumlaw15_PathUnder.f
  rw [hw, works_f 400 (by decide)]
  by_cases h : (a0.size : Int) + (a1.size : Int) > 65536
  · rw [if_pos h]; rfl
  · rw [if_neg h, pun_f a0 a1 (by omega) 400 (by decide), run_f a0 a1 (by omega) (by omega) 400 (by decide), Option.bind_some, Option.bind_some, if_pos rfl, if_pos (by simp)]
    rfl
end Go.Proofs.YtilhpgjohpekkaaDoor.Pure
