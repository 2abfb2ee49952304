/- It is proved here that what path.Join tells of any list is what the reference tells. -/
import Derived.Test.YtilhpgjohpekkaaDoorPathJoin
namespace Go.Proofs.YtilhpgjohpekkaaDoor.Pure
set_option linter.unusedVariables false
set_option linter.unusedSimpArgs false
open Go.RowKit Go.Proofs.YtilhpgjohpekkaaDoorW.PrintWords Go.Proofs.YtilhpgjohpekkaaDoorW.PrintLast Go.Proofs.YtilhpgjohpekkaaDoorW.PrintMore
open PLib PSplit PathPure

theorem eqt_f (ps : List ByteArray) (hl : ps.length ≤ 1000000) (k : Nat) (hk : ps.length + 1 ≤ k) : PJ.ciboriumref00_EqTexts.f k ps ps = some true := eqtexts_f ps hl k hk
theorem wk_f (k : Nat) (hk : 60 ≤ k) : PJ.ciboriumlaw15_works.f k = some true := works_f k hk
theorem copy_f (xs : List ByteArray) (h : xs.length ≤ 1000000) : PJ.ciboriumref00_CopyTexts.f xs = some xs := by
  unfold PJ.ciboriumref00_CopyTexts.f
  rw [if_pos (by rw [List.length_nil]; omega), List.nil_append]
theorem pj2 (xs : List ByteArray) (hp : ∀ x ∈ xs, x.size ≤ 140737488355328) (b : Bool) (hb : b = false → xs.length ≤ 4096) (k : Nat) (hk : 2 * xs.length + 400 ≤ k) : PJ.ciboriumlaw15_PathJoins.j2 k xs b = some true := by
  obtain ⟨k, rfl⟩ : ∃ k', k = k' + 1 := ⟨k - 1, by omega⟩
  rw [PJ.ciboriumlaw15_PathJoins.j2, wk_f k (by omega)]
  cases b with
  | true => rw [if_pos rfl]; rfl
  | false =>
    have hl := hb rfl
    rw [if_neg (by decide), copy_f xs (by omega), Option.bind_some, pjoin_f xs hl hp k (by omega), Option.bind_some, rjoin_f xs hp k (by omega), Option.bind_some, if_pos rfl, if_pos rfl, eqt_f xs (by omega) k (by omega), Option.bind_some, if_pos rfl]
    rfl
theorem pj1 (xs : List ByteArray) (hp : ∀ x ∈ xs, x.size ≤ 140737488355328) (v : Int) (k : Nat) (hk : 2 * xs.length + 401 ≤ k) : PJ.ciboriumlaw15_PathJoins.j1 k xs v = some true := by
  obtain ⟨k, rfl⟩ : ∃ k', k = k' + 1 := ⟨k - 1, by omega⟩
  rw [PJ.ciboriumlaw15_PathJoins.j1]
  by_cases h : v > 65536
  · rw [if_pos h]
    exact pj2 xs hp true (fun h => absurd h (by decide)) k (by omega)
  · rw [if_neg h]
    exact pj2 xs hp _ (fun h => by rw [decide_eq_false_iff_not] at h; omega) k (by omega)
theorem pj0 (xs : List ByteArray) (hl : xs.length ≤ 140737488355328) (hp : ∀ x ∈ xs, x.size ≤ 140737488355328) (m : Nat) : ∀ (i : Nat) (v : Int), 0 ≤ v → v ≤ 200000 → i + m = xs.length → ∀ k, m + 2 * xs.length + 402 ≤ k → PJ.ciboriumlaw15_PathJoins.l0 k xs v (i : Int) = some true := by
  induction m with
  | zero =>
    intro i v h0 h1 hi k hk
    obtain ⟨k, rfl⟩ : ∃ k', k = k' + 1 := ⟨k - 1, by omega⟩
    rw [PJ.ciboriumlaw15_PathJoins.l0, if_neg (by omega)]
    exact pj1 xs hp v k (by omega)
  | succ m ih =>
    intro i v h0 h1 hi k hk
    obtain ⟨k, rfl⟩ : ∃ k', k = k' + 1 := ⟨k - 1, by omega⟩
    have hib : i < xs.length := by omega
    rw [PJ.ciboriumlaw15_PathJoins.l0, if_pos (Int.ofNat_lt.2 hib)]
    by_cases hv : v ≤ 65536
    · have hw : wrap64 ((i : Int) + 1) = ((i + 1 : Nat) : Int) := by rw [IntWalk.wrap64_in _ (by omega)]; omega
      have hmn : 0 ≤ mn ((xs[i].size : Int)) 131072 ∧ mn ((xs[i].size : Int)) 131072 ≤ 131072 := by
        unfold mn
        split <;> omega
      rw [if_pos hv, if_pos (by omega), rd_at xs i hib, hw]
      generalize mn ((xs[i].size : Int)) 131072 = q at *
      rw [IntWalk.wrap64_in _ (by omega)]
      exact ih (i + 1) (v + q) (by omega) (by omega) (by omega) k (by omega)
    · rw [if_neg hv]
      exact pj1 xs hp v k (by omega)
theorem PathJoins (xs : List ByteArray) (hl : xs.length ≤ 140737488355328) (hp : ∀ x ∈ xs, x.size ≤ 140737488355328) : ∃ k, PJ.ciboriumlaw15_PathJoins.f k xs = some true :=
  ⟨3 * xs.length + 500, pj0 xs hl hp xs.length 0 0 (by decide) (by decide) (by omega) _ (by omega)⟩
end Go.Proofs.YtilhpgjohpekkaaDoor.Pure
