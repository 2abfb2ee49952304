/- It is proved here that what path.Check, path.CheckPattern and path.Split tell of any text is what the reference tells. -/
import Derived.Test.YtilhpgjohpekkaaDoorPCx7
import Derived.Test.YtilhpgjohpekkaaDoorPathPure
import Derived.Test.YtilhpgjohpekkaaDoorPathPure2
namespace Go.Proofs.YtilhpgjohpekkaaDoor.Pure
set_option linter.unusedVariables false
set_option linter.unusedSimpArgs false
open Go.RowKit Go.Proofs.YtilhpgjohpekkaaDoor.PC Go.Proofs.YtilhpgjohpekkaaDoorW.PrintWords Go.Proofs.YtilhpgjohpekkaaDoorW.PrintLast
open PLib PSplit PathPure

theorem len_split (s : ByteArray) : (splitR s).1.length ≤ 129 := by
  unfold splitR
  cases hL : longB s with
  | true => rw [if_pos rfl]; simp
  | false =>
    have h1 := small s hL
    have h2 := pieces_len s
    rw [if_neg (by decide)]
    split
    · show (pieces 47 s).length ≤ 129
      omega
    · simp
theorem sets_l (x5 x7 : List ByteArray) (h5 : x5 = x7) (hl : x7.length ≤ 129) (m : Nat) : ∀ (i : Nat) (x3 : List ByteArray), x3.length = x7.length → i + m = x7.length → ∀ k, m + 200 ≤ k → ciboriumlaw15_PathChecks.l0 k x3 x5 x7 (i : Int) = some true := by
  induction m with
  | zero =>
    intro i x3 h3 hi k hk
    obtain ⟨k, rfl⟩ : ∃ k', k = k' + 1 := ⟨k - 1, by omega⟩
    have hw : wrap64 ((x7.length : Int) + 1) = (x7.length : Int) + 1 := IntWalk.wrap64_in _ (by omega)
    rw [ciboriumlaw15_PathChecks.l0, if_neg (by omega), if_pos (by omega), hw, if_pos (by rw [List.length_append, List.length_singleton]; omega), h5, eqtexts_f x7 (by omega) k (by omega), Option.bind_some, if_pos rfl, works_f k (by omega)]
    rfl
  | succ m ih =>
    intro i x3 h3 hi k hk
    obtain ⟨k, rfl⟩ : ∃ k', k = k' + 1 := ⟨k - 1, by omega⟩
    have hw : wrap64 ((i : Int) + 1) = ((i + 1 : Nat) : Int) := by rw [IntWalk.wrap64_in _ (by omega)]; omega
    rw [ciboriumlaw15_PathChecks.l0, if_pos (by omega), if_pos (by omega), hw]
    exact ih (i + 1) _ (by rw [List.length_set]; exact h3) (by omega) k (by omega)
theorem PathChecks : ciboriumlaw15_PathChecks.Pure := by
  intro a0 h0
  refine ⟨1000, ?_⟩
  unfold ciboriumlaw15_PathChecks.f
  by_cases h : (a0.size : Int) > 65536
  · rw [if_pos h, works_f 1000 (by decide)]; rfl
  · rw [if_neg h, pcheck_f, Option.bind_some, check_f a0 1000 (by decide), Option.bind_some, if_pos rfl, ppat_f a0 (by omega) 1000 (by decide), Option.bind_some, rpat_f a0 1000 (by decide), Option.bind_some, ciboriumlaw15_PathChecks.j0, if_neg (by simp)]
    have hs : path_Split.f a0 = some (splitR a0) := rfl
    have hl := len_split a0
    rw [hs, Option.bind_some, Option.bind_some, split_f a0 _ (by decide), Option.bind_some, if_pos rfl, if_pos rfl, eqtexts_f _ (by omega) _ (by omega), Option.bind_some, ciboriumlaw15_PathChecks.j1, if_neg (by decide)]
    exact sets_l _ _ rfl hl (splitR a0).1.length 0 _ rfl (by omega) _ (by omega)
end Go.Proofs.YtilhpgjohpekkaaDoor.Pure
