/- What is said here: the reference's Number reads what octet.Number reads. -/
import Derived.Test.YtengdchgfhcdhaaPureNum
namespace Go.Proofs.Ytengdchgfhcdhaa.PureNum
set_option linter.unusedVariables false
set_option linter.unusedSimpArgs false
open Go.RowKit Go.Proofs.YtengdchgfhcdhaaW.PrintWords Go.Proofs.YtengdchgfhcdhaaW.PrintLast Go.Proofs.YtengdchgfhcdhaaW.PrintMore Go.Proofs.Ytengdchgfhcdhaa.Digits

/-- A text's digits. -/
def dg (s : ByteArray) (i : Nat) : Int := bt s (i : Int) - 48
def isD (s : ByteArray) (i : Nat) : Prop := 48 ≤ bt s (i : Int) ∧ bt s (i : Int) ≤ 57

theorem octL0 (s : ByteArray) (hN : s.size ≤ 1000000) (m : Nat) : ∀ i : Nat, i + m = s.size → (∀ q, i ≤ q → q < s.size → isD s q) → ∀ (x : Int) (k : Nat),
    PA.octet_Number.l0 (k + m + 1) s x (s.size : Int) (i : Int) = (if 0 < (s.size : Int) then (if (bt s 0) = 48 then (PA.octet_Number.j1 k s x (decide ((s.size : Int) > 1))) else (PA.octet_Number.j1 k s x false)) else none) := by
  induction m with
  | zero =>
    intro i hi hd x k
    rw [Nat.add_zero, PA.octet_Number.l0, if_neg (by omega)]
  | succ m ih =>
    intro i hi hd x k
    have h := hd i (Nat.le_refl _) (by omega)
    unfold isD at h
    rw [show k + (m + 1) + 1 = (k + m + 1) + 1 by omega, PA.octet_Number.l0, if_pos (by omega), if_pos (by omega), if_pos (by omega), if_neg (by omega), if_neg (by omega), IntWalk.wrap64_in _ (by omega)]
    exact ih (i + 1) (by omega) (fun q h1 h2 => hd q (by omega) h2) x k
theorem octL0_bad (s : ByteArray) (hN : s.size ≤ 1000000) (m : Nat) : ∀ i : Nat, i + m = s.size → (∃ q, i ≤ q ∧ q < s.size ∧ ¬ isD s q) → ∀ (x : Int) (k : Nat), m ≤ k →
    PA.octet_Number.l0 k s x (s.size : Int) (i : Int) = some (0, 11) := by
  induction m with
  | zero => intro i hi ⟨q, h1, h2, _⟩; omega
  | succ m ih =>
    intro i hi ⟨q, h1, h2, h3⟩ x k hk
    obtain ⟨k, rfl⟩ : ∃ k', k = k' + 1 := ⟨k - 1, by omega⟩
    rw [PA.octet_Number.l0, if_pos (by omega), if_pos (by omega), if_pos (by omega)]
    by_cases h4 : bt s (i : Int) < 48
    · rw [if_pos h4]
    · rw [if_neg h4]
      by_cases h5 : bt s (i : Int) > 57
      · rw [if_pos h5]
      · rw [if_neg h5, IntWalk.wrap64_in _ (by omega)]
        refine ih (i + 1) (by omega) ⟨q, ?_, h2, h3⟩ x k (by omega)
        rcases Nat.lt_or_ge i q with h | h
        · exact h
        · obtain rfl : i = q := by omega
          exact absurd ⟨by omega, by omega⟩ h3
theorem refL0 (s : ByteArray) (hN : s.size ≤ 1000000) (m : Nat) : ∀ i : Nat, i + m = s.size → (∀ q, i ≤ q → q < s.size → isD s q) → ∀ (k : Nat),
    PN.ciboriumref01_Number.l0 (k + m + 1) s (i : Int) = (if (s.size : Int) > 1 then (if 0 < (s.size : Int) then (PN.ciboriumref01_Number.j1 k s ((bt s 0) == 48)) else (none)) else (PN.ciboriumref01_Number.j1 k s false)) := by
  induction m with
  | zero =>
    intro i hi hd k
    rw [Nat.add_zero, PN.ciboriumref01_Number.l0, if_neg (by omega)]
  | succ m ih =>
    intro i hi hd k
    have h := hd i (Nat.le_refl _) (by omega)
    unfold isD at h
    rw [show k + (m + 1) + 1 = (k + m + 1) + 1 by omega, PN.ciboriumref01_Number.l0, if_pos (by omega), if_pos (by omega), if_neg (by omega), if_neg (by omega), IntWalk.wrap64_in _ (by omega)]
    exact ih (i + 1) (by omega) (fun q h1 h2 => hd q (by omega) h2) k
theorem refL0_bad (s : ByteArray) (hN : s.size ≤ 1000000) (m : Nat) : ∀ i : Nat, i + m = s.size → (∃ q, i ≤ q ∧ q < s.size ∧ ¬ isD s q) → ∀ (k : Nat), m ≤ k →
    PN.ciboriumref01_Number.l0 k s (i : Int) = some (0, 11) := by
  induction m with
  | zero => intro i hi ⟨q, h1, h2, _⟩; omega
  | succ m ih =>
    intro i hi ⟨q, h1, h2, h3⟩ k hk
    obtain ⟨k, rfl⟩ : ∃ k', k = k' + 1 := ⟨k - 1, by omega⟩
    rw [PN.ciboriumref01_Number.l0, if_pos (by omega), if_pos (by omega)]
    by_cases h4 : bt s (i : Int) < 48
    · rw [if_pos h4]
    · rw [if_neg h4]
      by_cases h5 : bt s (i : Int) > 57
      · rw [if_pos h5]
      · rw [if_neg h5, IntWalk.wrap64_in _ (by omega)]
        refine ih (i + 1) (by omega) ⟨q, ?_, h2, h3⟩ k (by omega)
        rcases Nat.lt_or_ge i q with h | h
        · exact h
        · obtain rfl : i = q := by omega
          exact absurd ⟨by omega, by omega⟩ h3
/-- The value, digit for digit. -/
theorem octL1 (s : ByteArray) (hN : s.size ≤ 1000000) (hd : ∀ q, q < s.size → isD s q) (hv : pv (dg s) s.size ≤ 18446744073709551615) (m : Nat) : ∀ i : Nat, i + m = s.size → ∀ (k : Nat), m < k →
    PA.octet_Number.l1 k s (pv (dg s) i) (s.size : Int) (i : Int) = some (pv (dg s) s.size, 0) := by
  have hn : ∀ i, i < s.size → 0 ≤ dg s i := fun i hi => by have := hd i hi; unfold isD at this; unfold dg; omega
  induction m with
  | zero =>
    intro i hi k hk
    obtain ⟨k, rfl⟩ : ∃ k', k = k' + 1 := ⟨k - 1, by omega⟩
    rw [PA.octet_Number.l1, if_neg (by omega), show i = s.size by omega]
  | succ m ih =>
    intro i hi k hk
    obtain ⟨k, rfl⟩ : ∃ k', k = k' + 1 := ⟨k - 1, by omega⟩
    have h := hd i (by omega)
    unfold isD at h
    have h1 := pv_mono (dg s) s.size hn (i + 1) (by omega)
    have h0 := pv_nonneg (dg s) i (fun q hq => hn q (by omega))
    have h2 : pv (dg s) (i + 1) = 10 * pv (dg s) i + (bt s (i : Int) - 48) := rfl
    have h3 : (bt s (i : Int) - 48) % 256 = bt s (i : Int) - 48 := by omega
    have h4 : IntKind.u64.wrap (10 * pv (dg s) i) = 10 * pv (dg s) i := IntWalk.u64_in _ ⟨by omega, by omega⟩
    rw [PA.octet_Number.l1, if_pos (by omega), if_pos (by omega), if_pos (by omega), if_neg (by omega), h4, h3, if_neg (by omega), ← h2, IntWalk.u64_in (pv (dg s) (i + 1)) ⟨by omega, by omega⟩, IntWalk.wrap64_in _ (by omega)]
    exact ih (i + 1) (by omega) k (by omega)
theorem octL1_wide (s : ByteArray) (hN : s.size ≤ 1000000) (hd : ∀ q, q < s.size → isD s q) (hv : 18446744073709551615 < pv (dg s) s.size) (m : Nat) : ∀ i : Nat, i + m = s.size → pv (dg s) i ≤ 18446744073709551615 → ∀ (k : Nat), m < k →
    PA.octet_Number.l1 k s (pv (dg s) i) (s.size : Int) (i : Int) = some (0, 12) := by
  have hn : ∀ i, i < s.size → 0 ≤ dg s i := fun i hi => by have := hd i hi; unfold isD at this; unfold dg; omega
  induction m with
  | zero =>
    intro i hi hle k hk
    rw [show i = s.size by omega] at hle
    omega
  | succ m ih =>
    intro i hi hle k hk
    obtain ⟨k, rfl⟩ : ∃ k', k = k' + 1 := ⟨k - 1, by omega⟩
    have h := hd i (by omega)
    unfold isD at h
    have h0 := pv_nonneg (dg s) i (fun q hq => hn q (by omega))
    have h2 : pv (dg s) (i + 1) = 10 * pv (dg s) i + (bt s (i : Int) - 48) := rfl
    have h3 : (bt s (i : Int) - 48) % 256 = bt s (i : Int) - 48 := by omega
    rw [PA.octet_Number.l1, if_pos (by omega), if_pos (by omega), if_pos (by omega)]
    by_cases h5 : pv (dg s) i > 1844674407370955161
    · rw [if_pos h5]
    · have h4 : IntKind.u64.wrap (10 * pv (dg s) i) = 10 * pv (dg s) i := IntWalk.u64_in _ ⟨by omega, by omega⟩
      rw [if_neg h5, h4, h3]
      by_cases h6 : 10 * pv (dg s) i > 18446744073709551615 - (bt s (i : Int) - 48)
      · rw [if_pos h6]
      · rw [if_neg h6, ← h2, IntWalk.u64_in (pv (dg s) (i + 1)) ⟨by omega, by omega⟩, IntWalk.wrap64_in _ (by omega)]
        exact ih (i + 1) (by omega) (by omega) k (by omega)
theorem refL1 (s : ByteArray) (hN : s.size ≤ 1000000) (hd : ∀ q, q < s.size → isD s q) (hv : pv (dg s) s.size ≤ 18446744073709551615) (m : Nat) : ∀ i : Nat, i + m = s.size → ∀ (k : Nat), m < k →
    PN.ciboriumref01_Number.l1 k s (pv (dg s) i) (i : Int) = some (pv (dg s) s.size, 0) := by
  have hn : ∀ i, i < s.size → 0 ≤ dg s i := fun i hi => by have := hd i hi; unfold isD at this; unfold dg; omega
  induction m with
  | zero =>
    intro i hi k hk
    obtain ⟨k, rfl⟩ : ∃ k', k = k' + 1 := ⟨k - 1, by omega⟩
    rw [PN.ciboriumref01_Number.l1, if_neg (by omega), show i = s.size by omega]
  | succ m ih =>
    intro i hi k hk
    obtain ⟨k, rfl⟩ : ∃ k', k = k' + 1 := ⟨k - 1, by omega⟩
    have h := hd i (by omega)
    unfold isD at h
    have h1 := pv_mono (dg s) s.size hn (i + 1) (by omega)
    have h0 := pv_nonneg (dg s) i (fun q hq => hn q (by omega))
    have h2 : pv (dg s) (i + 1) = 10 * pv (dg s) i + (bt s (i : Int) - 48) := rfl
    have h3 : (bt s (i : Int) - 48) % 256 = bt s (i : Int) - 48 := by omega
    have h4 : IntKind.u64.wrap (10 * pv (dg s) i) = 10 * pv (dg s) i := IntWalk.u64_in _ ⟨by omega, by omega⟩
    rw [PN.ciboriumref01_Number.l1, if_pos (by omega), if_pos (by omega), h4, h3, ← h2, IntWalk.u64_in (pv (dg s) (i + 1)) ⟨by omega, by omega⟩, IntWalk.wrap64_in _ (by omega)]
    exact ih (i + 1) (by omega) k (by omega)
end Go.Proofs.Ytengdchgfhcdhaa.PureNum
