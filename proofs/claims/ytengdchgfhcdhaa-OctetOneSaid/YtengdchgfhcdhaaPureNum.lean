/- What is said here: the reference's Digits tells what octet.Digits tells; the reference's Number reads what octet.Number reads. -/
import Derived.Test.YtengdchgfhcdhaaDigits
import Derived.Test.YtengdchgfhcdhaaPAx
import Derived.Test.YtengdchgfhcdhaaPNx
namespace Go.Proofs.Ytengdchgfhcdhaa.PureNum
set_option linter.unusedVariables false
set_option linter.unusedSimpArgs false
open Go.RowKit Go.Proofs.YtengdchgfhcdhaaW.PrintWords Go.Proofs.YtengdchgfhcdhaaW.PrintLast Go.Proofs.YtengdchgfhcdhaaW.PrintMore Go.Proofs.Ytengdchgfhcdhaa.Digits

theorem strOf_append (xs ys : List Int) : strOfNums (xs ++ ys) = strOfNums xs ++ strOfNums ys := by
  have h : (strOfNums (xs ++ ys)).data = (strOfNums xs ++ strOfNums ys).data := by simp [strOfNums, ByteArray.data_append]
  exact ByteArray.ext h
theorem dl_snoc (n : Int) (j : Nat) : dl n (j + 1) = dl (n / 10) j ++ [48 + n % 10] := by
  induction j with
  | zero => simp [dl]
  | succ j ih => rw [dl, ih, dl, List.cons_append, Int.ediv_ediv_of_nonneg (by decide), show (10 : Int) * 10 ^ j = 10 ^ (j + 1) by rw [Int.pow_succ, Int.mul_comm]]
theorem refDigits (j : Nat) : ∀ n : Int, 0 < j → j ≤ 100 → 0 ≤ n → n < 18446744073709551616 → n / 10 ^ j = 0 → (∀ i, 0 < i → i < j → n / 10 ^ i ≠ 0) → ∀ k, j ≤ k → PA.ciboriumref01_Digits.f k n = some (strOfNums (dl n j)) := by
  induction j with
  | zero => intro n h; omega
  | succ j ih =>
    intro n _ hj h0 h1 hz hn k hk
    obtain ⟨k, rfl⟩ : ∃ k', k = k' + 1 := ⟨k - 1, by omega⟩
    have e1 : (48 + Int.tmod n 10 % 256) % 256 = 48 + n % 10 := by rw [Int.tmod_eq_emod_of_nonneg h0]; omega
    rw [PA.ciboriumref01_Digits.f, Option.bind_some, e1]
    by_cases hs : n < 10
    · rw [if_pos hs]
      have : j = 0 := by
        rcases Nat.eq_zero_or_pos j with h | h
        · exact h
        · exact absurd (by simp only [Int.pow_one, Int.pow_succ, Int.pow_zero, Int.one_mul]; omega : n / 10 ^ 1 = 0) (hn 1 (by omega) (by omega))
      subst this
      simp [dl]
    · rw [if_neg hs]
      have hj0 : 0 < j := by
        rcases Nat.eq_zero_or_pos j with h | h
        · subst h
          simp only [Nat.zero_add, Int.pow_one, Int.pow_succ, Int.pow_zero, Int.one_mul] at hz
          omega
        · exact h
      have e2 : IntKind.u64.wrap (Int.tdiv n 10) = n / 10 := by
        rw [Int.tdiv_eq_ediv_of_nonneg h0]
        exact IntWalk.u64_in _ ⟨by omega, by omega⟩
      have hd : ∀ i, n / 10 / 10 ^ i = n / 10 ^ (i + 1) := fun i => by rw [Int.ediv_ediv_of_nonneg (by decide), show (10 : Int) * 10 ^ i = 10 ^ (i + 1) by rw [Int.pow_succ, Int.mul_comm]]
      rw [e2, ih (n / 10) hj0 (by omega) (by omega) (by omega) (by rw [hd]; exact hz) (fun i hi hij => by rw [hd]; exact hn (i + 1) (by omega) (by omega)) k (by omega), Option.bind_some, if_pos, dl_snoc, strOf_append]
      rw [strOfNums_size, strOfNums_size, dl_length]
      simp only [List.length_cons, List.length_nil]
      omega

/-- The number that the first i digits are. -/
def pv (d : Nat → Int) : Nat → Int
  | 0 => 0
  | i + 1 => 10 * pv d i + d i
theorem pv_nonneg (d : Nat → Int) (n : Nat) (h : ∀ i, i < n → 0 ≤ d i) : 0 ≤ pv d n := by
  induction n with
  | zero => exact Int.le_refl _
  | succ n ih => have := ih (fun i hi => h i (by omega)); have := h n (by omega); simp only [pv]; omega
theorem pv_mono (d : Nat → Int) (n : Nat) (h : ∀ i, i < n → 0 ≤ d i) : ∀ i, i ≤ n → pv d i ≤ pv d n := by
  induction n with
  | zero => intro i hi; rw [show i = 0 by omega]; exact Int.le_refl _
  | succ n ih =>
    intro i hi
    by_cases e : i = n + 1
    · rw [e]; exact Int.le_refl _
    · have h1 := ih (fun i hi => h i (by omega)) i (by omega)
      have h2 := pv_nonneg d n (fun i hi => h i (by omega))
      have h3 := h n (by omega)
      simp only [pv]
      omega
theorem pv_lt (d : Nat → Int) (n : Nat) (h : ∀ i, i < n → 0 ≤ d i ∧ d i ≤ 9) : pv d n < 10 ^ n := by
  induction n with
  | zero => exact Int.zero_lt_one
  | succ n ih => have := ih (fun i hi => h i (by omega)); have := h n (by omega); simp only [pv, Int.pow_succ]; omega
theorem pv_ge (d : Nat → Int) (n : Nat) (h : ∀ i, i < n + 1 → 0 ≤ d i) (h0 : 0 < d 0) : 10 ^ n ≤ pv d (n + 1) := by
  induction n with
  | zero => simp only [pv, Int.pow_zero]; omega
  | succ n ih => have := ih (fun i hi => h i (by omega)); have := h (n + 1) (by omega); rw [pv, Int.pow_succ]; omega
end Go.Proofs.Ytengdchgfhcdhaa.PureNum
