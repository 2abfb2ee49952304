/- What is said here: the reference's Unhex reads what octet.Unhex reads. -/
import Derived.Test.YtengdchgfhcdhaaHex
import Derived.Test.YtengdchgfhcdhaaPAx
import Derived.Test.YtengdchgfhcdhaaPUx
namespace Go.Proofs.Ytengdchgfhcdhaa.PureHex
set_option linter.unusedVariables false
set_option linter.unusedSimpArgs false
open Go.RowKit Go.Proofs.YtengdchgfhcdhaaW.PrintWords Go.Proofs.YtengdchgfhcdhaaW.PrintLast Go.Proofs.YtengdchgfhcdhaaW.PrintMore

/-- What a digit to the base 16 says; 16: it is none. -/
def hv (c : Int) : Int := if 48 ≤ c ∧ c ≤ 57 then c - 48 else if 97 ≤ c ∧ c ≤ 102 then c - 87 else 16
theorem hv_range (c : Int) : 0 ≤ hv c ∧ hv c ≤ 16 := by
  unfold hv
  by_cases a : 48 ≤ c ∧ c ≤ 57
  · rw [if_pos a]; omega
  · rw [if_neg a]
    by_cases b : 97 ≤ c ∧ c ≤ 102
    · rw [if_pos b]; omega
    · rw [if_neg b]; omega
theorem half_f (c : Int) (h0 : 0 ≤ c) (h1 : c ≤ 255) (k : Nat) (hk : 1 ≤ k) : PA.octet_half.f k c = some (hv c) := by
  obtain ⟨k, rfl⟩ : ∃ k', k = k' + 1 := ⟨k - 1, by omega⟩
  have h : ∀ n : Fin 256, PA.octet_half.f 1 ((n.val : Nat) : Int) = some (hv ((n.val : Nat) : Int)) := by decide +kernel
  have h2 := h ⟨c.toNat, by omega⟩
  simp only [Int.toNat_of_nonneg h0] at h2
  rw [← h2]
  simp only [PA.octet_half.f, PA.octet_half.j0]
theorem value_f (c : Int) (h0 : 0 ≤ c) (h1 : c ≤ 255) (k : Nat) (hk : 1 ≤ k) : PU.ciboriumref01_value.f k c = some (if hv c = 16 then (0, false) else (hv c, true)) := by
  obtain ⟨k, rfl⟩ : ∃ k', k = k' + 1 := ⟨k - 1, by omega⟩
  have h : ∀ n : Fin 256, PU.ciboriumref01_value.f 1 ((n.val : Nat) : Int) = some (if hv ((n.val : Nat) : Int) = 16 then (0, false) else (hv ((n.val : Nat) : Int), true)) := by decide +kernel
  have h2 := h ⟨c.toNat, by omega⟩
  simp only [Int.toNat_of_nonneg h0] at h2
  rw [← h2]
  simp only [PU.ciboriumref01_value.f, PU.ciboriumref01_value.j0]
theorem or16 (a b : Int) (ha : 0 ≤ a) (ha2 : a < 16) (hb : 0 ≤ b) (hb2 : b < 16) : Go.bits .or .u8 (a * 16 % 256) b = 16 * a + b := by
  have h : ∀ n m : Fin 16, Go.bits .or .u8 (((n.val : Nat) : Int) * 16 % 256) ((m.val : Nat) : Int) = 16 * ((n.val : Nat) : Int) + ((m.val : Nat) : Int) := by decide +kernel
  have := h ⟨a.toNat, by omega⟩ ⟨b.toNat, by omega⟩
  simpa only [Int.toNat_of_nonneg ha, Int.toNat_of_nonneg hb] using this

def hs (s : ByteArray) (i : Nat) : Int := hv (bt s (i : Int))
/-- The first j bytes. -/
def unL (s : ByteArray) : Nat → List Int
  | 0 => []
  | j + 1 => unL s j ++ [16 * hs s (2 * j) + hs s (2 * j + 1)]
theorem unL_length (s : ByteArray) (j : Nat) : (unL s j).length = j := by induction j with | zero => rfl | succ j ih => simp [unL, ih]

theorem octU_bad (s : ByteArray) (hN : s.size ≤ 1000000) (m : Nat) : ∀ i : Nat, i + m = s.size → (∃ q, i ≤ q ∧ q < s.size ∧ hs s q = 16) → ∀ (x : List Int) (k : Nat), m + 1 ≤ k →
    PA.octet_Unhex.l0 k s x (s.size : Int) (i : Int) = some ([], 11) := by
  induction m with
  | zero => intro i hi ⟨q, h1, h2, _⟩; omega
  | succ m ih =>
    intro i hi ⟨q, h1, h2, h3⟩ x k hk
    obtain ⟨k, rfl⟩ : ∃ k', k = k' + 1 := ⟨k - 1, by omega⟩
    have hb := bt_range s (i : Int)
    have hi2 : Int.tdiv (i : Int) 2 = ((i / 2 : Nat) : Int) := by rw [Int.tdiv_eq_ediv_of_nonneg (by omega)]; omega
    rw [PA.octet_Unhex.l0, if_pos (by omega), if_pos (by omega), if_pos (by omega), half_f _ hb.1 hb.2 k (by omega), Option.bind_some, hi2, IntWalk.wrap64_in ((i / 2 : Nat) : Int) (by omega), IntWalk.wrap64_in ((i : Int) + 1) (by omega)]
    by_cases h4 : hv (bt s (i : Int)) = 16
    · rw [if_pos h4]
    · rw [if_neg h4]
      have hq : i + 1 ≤ q := by
        rcases Nat.lt_or_ge i q with h | h
        · exact h
        · obtain rfl : i = q := by omega
          exact absurd h3 h4
      by_cases h5 : ((i / 2 : Nat) : Int) < (x.length : Int)
      · rw [if_pos h5, if_pos (by omega)]
        exact ih (i + 1) (by omega) ⟨q, hq, h2, h3⟩ _ k (by omega)
      · rw [if_neg h5]
        exact ih (i + 1) (by omega) ⟨q, hq, h2, h3⟩ _ k (by omega)
theorem octU_odd (s : ByteArray) (hN : s.size ≤ 1000000) (ho : s.size % 2 = 1) (hd : ∀ q, q < s.size → hs s q ≠ 16) (m : Nat) : ∀ i : Nat, i + m = s.size → ∀ (x : List Int) (k : Nat), m + 2 ≤ k →
    PA.octet_Unhex.l0 k s x (s.size : Int) (i : Int) = some ([], 10) := by
  induction m with
  | zero =>
    intro i hi x k hk
    obtain ⟨k, rfl⟩ : ∃ k', k = k' + 1 := ⟨k - 1, by omega⟩
    rw [PA.octet_Unhex.l0, if_neg (by omega), if_pos (by omega)]
  | succ m ih =>
    intro i hi x k hk
    obtain ⟨k, rfl⟩ : ∃ k', k = k' + 1 := ⟨k - 1, by omega⟩
    have hb := bt_range s (i : Int)
    have hi2 : Int.tdiv (i : Int) 2 = ((i / 2 : Nat) : Int) := by rw [Int.tdiv_eq_ediv_of_nonneg (by omega)]; omega
    rw [PA.octet_Unhex.l0, if_pos (by omega), if_pos (by omega), if_pos (by omega), half_f _ hb.1 hb.2 k (by omega), Option.bind_some, hi2, IntWalk.wrap64_in ((i / 2 : Nat) : Int) (by omega), IntWalk.wrap64_in ((i : Int) + 1) (by omega), if_neg (show ¬ hv (bt s (i : Int)) = 16 from hd i (by omega))]
    by_cases h5 : ((i / 2 : Nat) : Int) < (x.length : Int)
    · rw [if_pos h5, if_pos (by omega)]
      exact ih (i + 1) (by omega) _ k (by omega)
    · rw [if_neg h5]
      exact ih (i + 1) (by omega) _ k (by omega)
theorem octU_even (s : ByteArray) (hN : s.size ≤ 1000000) (M : Nat) (hM : s.size = 2 * M) (hd : ∀ q, q < s.size → hs s q ≠ 16) (m : Nat) : ∀ j : Nat, j + m = M → ∀ (k : Nat), 2 * m + 2 ≤ k →
    PA.octet_Unhex.l0 k s (unL s j ++ List.replicate m 0) (s.size : Int) ((2 * j : Nat) : Int) = some (unL s M, 0) := by
  induction m with
  | zero =>
    intro j hj k hk
    obtain ⟨k, rfl⟩ : ∃ k', k = k' + 1 := ⟨k - 1, by omega⟩
    obtain rfl : j = M := by omega
    rw [PA.octet_Unhex.l0, if_neg (by omega), if_neg (by omega), List.replicate_zero, List.append_nil]
  | succ m ih =>
    intro j hj k hk
    obtain ⟨k, rfl⟩ : ∃ k', k = k' + 1 + 1 := ⟨k - 2, by omega⟩
    have hb := bt_range s ((2 * j : Nat) : Int)
    have hb2 := bt_range s ((2 * j + 1 : Nat) : Int)
    have hi2 : Int.tdiv ((2 * j : Nat) : Int) 2 = ((j : Nat) : Int) := by rw [Int.tdiv_eq_ediv_of_nonneg (by omega)]; omega
    have hi3 : Int.tdiv ((2 * j + 1 : Nat) : Int) 2 = ((j : Nat) : Int) := by rw [Int.tdiv_eq_ediv_of_nonneg (by omega)]; omega
    have r0 : ∀ x : Int, rd (unL s j ++ x :: List.replicate m 0) (j : Int) = x := fun x => by
      unfold rd
      rw [Int.toNat_natCast, List.getD_eq_getElem?_getD, List.getElem?_append_right (by rw [unL_length]; omega), unL_length, Nat.sub_self]
      rfl
    have s0 : ∀ x y : Int, (unL s j ++ x :: List.replicate m 0).set j y = unL s j ++ y :: List.replicate m 0 := fun x y => by
      rw [List.set_append_right _ _ (by rw [unL_length]; omega), unL_length, Nat.sub_self]
      rfl
    have d0 := hd (2 * j) (by omega)
    have d1 := hd (2 * j + 1) (by omega)
    have g0 := hv_range (bt s ((2 * j : Nat) : Int))
    have g1 := hv_range (bt s ((2 * j + 1 : Nat) : Int))
    have o0 : Go.bits .or .u8 (0 * 16 % 256) (hv (bt s ((2 * j : Nat) : Int))) = hs s (2 * j) := by
      rw [or16 0 _ (by decide) (by decide) g0.1 (by unfold hs at d0; omega)]; unfold hs; omega
    have o1 : Go.bits .or .u8 (hs s (2 * j) * 16 % 256) (hv (bt s ((2 * j + 1 : Nat) : Int))) = 16 * hs s (2 * j) + hs s (2 * j + 1) := by
      exact or16 _ _ g0.1 (by unfold hs at d0 ⊢; omega) g1.1 (by unfold hs at d1; omega)
    have hlen : ∀ x : Int, ((unL s j ++ x :: List.replicate m 0).length : Int) = ((j + m + 1 : Nat) : Int) := fun x => by
      rw [List.length_append, unL_length, List.length_cons, List.length_replicate]; omega
    rw [List.replicate_succ, PA.octet_Unhex.l0, if_pos (by omega), if_pos (by omega), if_pos (by omega), half_f _ hb.1 hb.2 _ (by omega), Option.bind_some, hi2, IntWalk.wrap64_in (j : Int) (by omega), IntWalk.wrap64_in (((2 * j : Nat) : Int) + 1) (by omega), if_neg (show ¬ hv (bt s ((2 * j : Nat) : Int)) = 16 from d0), hlen, if_pos (by omega), if_pos (by omega), r0, o0, Int.toNat_natCast, s0]
    rw [show ((2 * j : Nat) : Int) + 1 = ((2 * j + 1 : Nat) : Int) by omega]
    rw [PA.octet_Unhex.l0, if_pos (by omega), if_pos (by omega), if_pos (by omega), half_f _ hb2.1 hb2.2 _ (by omega), Option.bind_some, hi3, IntWalk.wrap64_in (j : Int) (by omega), IntWalk.wrap64_in (((2 * j + 1 : Nat) : Int) + 1) (by omega), if_neg (show ¬ hv (bt s ((2 * j + 1 : Nat) : Int)) = 16 from d1), hlen, if_pos (by omega), if_pos (by omega), r0, o1, Int.toNat_natCast, s0]
    have := ih (j + 1) (by omega) k (by omega)
    rw [unL, List.append_assoc] at this
    rw [show ((2 * j + 1 : Nat) : Int) + 1 = ((2 * (j + 1) : Nat) : Int) by omega]
    exact this
end Go.Proofs.Ytengdchgfhcdhaa.PureHex
