/- What is said here: the reference's Unhex reads what octet.Unhex reads; the reference's Hex tells what octet.Hex tells; what Hex writes, Unhex takes as what it was, and the other way round. -/
import Derived.Test.YtglnepokollijaaHex
import Derived.Test.YtglnepokollijaaPAx
import Derived.Test.YtglnepokollijaaPUx
namespace Go.Proofs.Ytglnepokollijaa.PureHex
set_option linter.unusedVariables false
set_option linter.unusedSimpArgs false
open Go.RowKit Go.Proofs.YtglnepokollijaaW.PrintWords Go.Proofs.YtglnepokollijaaW.PrintLast Go.Proofs.YtglnepokollijaaW.PrintMore

/-- What a digit to the base 16 says; 16: it is none. -/
def hv (c : Int) : Int := if 48 ≤ c ∧ c ≤ 57 then c - 48 else if 97 ≤ c ∧ c ≤ 102 then c - 87 else 16
theorem hv_range (c : Int) : 0 ≤ hv c ∧ hv c ≤ 16 := by
  unfold hv
  by_cases a : 48 ≤ c ∧ c ≤ 57
  · rw [if_pos a]; omega
  · rw [if_neg a]
    by_cases b : 97 ≤ c ∧ c ≤ 102
    · rw [if_pos b]; omega
    · rw [if_neg b]; omega
theorem half_f (c : Int) (h0 : 0 ≤ c) (h1 : c ≤ 255) (k : Nat) (hk : 1 ≤ k) : PA.octet_half.f k c = some (hv c) := by
  obtain ⟨k, rfl⟩ : ∃ k', k = k' + 1 := ⟨k - 1, by omega⟩
  have h : ∀ n : Fin 256, PA.octet_half.f 1 ((n.val : Nat) : Int) = some (hv ((n.val : Nat) : Int)) := by decide +kernel
  have h2 := h ⟨c.toNat, by omega⟩
  simp only [Int.toNat_of_nonneg h0] at h2
  rw [← h2]
  simp only [PA.octet_half.f, PA.octet_half.j0]
theorem value_f (c : Int) (h0 : 0 ≤ c) (h1 : c ≤ 255) (k : Nat) (hk : 1 ≤ k) : PU.ciboriumref01_value.f k c = some (if hv c = 16 then (0, false) else (hv c, true)) := by
  obtain ⟨k, rfl⟩ : ∃ k', k = k' + 1 := ⟨k - 1, by omega⟩
  have h : ∀ n : Fin 256, PU.ciboriumref01_value.f 1 ((n.val : Nat) : Int) = some (if hv ((n.val : Nat) : Int) = 16 then (0, false) else (hv ((n.val : Nat) : Int), true)) := by decide +kernel
  have h2 := h ⟨c.toNat, by omega⟩
  simp only [Int.toNat_of_nonneg h0] at h2
  rw [← h2]
  simp only [PU.ciboriumref01_value.f, PU.ciboriumref01_value.j0]
theorem or16 (a b : Int) (ha : 0 ≤ a) (ha2 : a < 16) (hb : 0 ≤ b) (hb2 : b < 16) : Go.bits .or .u8 (a * 16 % 256) b = 16 * a + b := by
  have h : ∀ n m : Fin 16, Go.bits .or .u8 (((n.val : Nat) : Int) * 16 % 256) ((m.val : Nat) : Int) = 16 * ((n.val : Nat) : Int) + ((m.val : Nat) : Int) := by decide +kernel
  have := h ⟨a.toNat, by omega⟩ ⟨b.toNat, by omega⟩
  simpa only [Int.toNat_of_nonneg ha, Int.toNat_of_nonneg hb] using this

def hs (s : ByteArray) (i : Nat) : Int := hv (bt s (i : Int))
/-- The first j bytes. -/
def unL (s : ByteArray) : Nat → List Int
  | 0 => []
  | j + 1 => unL s j ++ [16 * hs s (2 * j) + hs s (2 * j + 1)]
theorem unL_length (s : ByteArray) (j : Nat) : (unL s j).length = j := by induction j with | zero => rfl | succ j ih => simp [unL, ih]

theorem octU_bad (s : ByteArray) (hN : s.size ≤ 1000000) (m : Nat) : ∀ i : Nat, i + m = s.size → (∃ q, i ≤ q ∧ q < s.size ∧ hs s q = 16) → ∀ (x : List Int) (k : Nat), m + 1 ≤ k →
    PA.octet_Unhex.l0 k s x (s.size : Int) (i : Int) = some ([], 11) := by
  induction m with
  | zero => intro i hi ⟨q, h1, h2, _⟩; omega
  | succ m ih =>
    intro i hi ⟨q, h1, h2, h3⟩ x k hk
    obtain ⟨k, rfl⟩ : ∃ k', k = k' + 1 := ⟨k - 1, by omega⟩
    have hb := bt_range s (i : Int)
    have hi2 : Int.tdiv (i : Int) 2 = ((i / 2 : Nat) : Int) := by rw [Int.tdiv_eq_ediv_of_nonneg (by omega)]; omega
    rw [PA.octet_Unhex.l0, if_pos (by omega), if_pos (by omega), if_pos (by omega), half_f _ hb.1 hb.2 k (by omega), Option.bind_some, hi2, IntWalk.wrap64_in ((i / 2 : Nat) : Int) (by omega), IntWalk.wrap64_in ((i : Int) + 1) (by omega)]
    by_cases h4 : hv (bt s (i : Int)) = 16
    · rw [if_pos h4]
    · rw [if_neg h4]
      have hq : i + 1 ≤ q := by
        rcases Nat.lt_or_ge i q with h | h
        · exact h
        · obtain rfl : i = q := by omega
          exact absurd h3 h4
      by_cases h5 : ((i / 2 : Nat) : Int) < (x.length : Int)
      · rw [if_pos h5, if_pos (by omega)]
        exact ih (i + 1) (by omega) ⟨q, hq, h2, h3⟩ _ k (by omega)
      · rw [if_neg h5]
        exact ih (i + 1) (by omega) ⟨q, hq, h2, h3⟩ _ k (by omega)
theorem octU_odd (s : ByteArray) (hN : s.size ≤ 1000000) (ho : s.size % 2 = 1) (hd : ∀ q, q < s.size → hs s q ≠ 16) (m : Nat) : ∀ i : Nat, i + m = s.size → ∀ (x : List Int) (k : Nat), m + 2 ≤ k →
    PA.octet_Unhex.l0 k s x (s.size : Int) (i : Int) = some ([], 10) := by
  induction m with
  | zero =>
    intro i hi x k hk
    obtain ⟨k, rfl⟩ : ∃ k', k = k' + 1 := ⟨k - 1, by omega⟩
    rw [PA.octet_Unhex.l0, if_neg (by omega), if_pos (by omega)]
  | succ m ih =>
    intro i hi x k hk
    obtain ⟨k, rfl⟩ : ∃ k', k = k' + 1 := ⟨k - 1, by omega⟩
    have hb := bt_range s (i : Int)
    have hi2 : Int.tdiv (i : Int) 2 = ((i / 2 : Nat) : Int) := by rw [Int.tdiv_eq_ediv_of_nonneg (by omega)]; omega
    rw [PA.octet_Unhex.l0, if_pos (by omega), if_pos (by omega), if_pos (by omega), half_f _ hb.1 hb.2 k (by omega), Option.bind_some, hi2, IntWalk.wrap64_in ((i / 2 : Nat) : Int) (by omega), IntWalk.wrap64_in ((i : Int) + 1) (by omega), if_neg (show ¬ hv (bt s (i : Int)) = 16 from hd i (by omega))]
    by_cases h5 : ((i / 2 : Nat) : Int) < (x.length : Int)
    · rw [if_pos h5, if_pos (by omega)]
      exact ih (i + 1) (by omega) _ k (by omega)
    · rw [if_neg h5]
      exact ih (i + 1) (by omega) _ k (by omega)
theorem octU_even (s : ByteArray) (hN : s.size ≤ 1000000) (M : Nat) (hM : s.size = 2 * M) (hd : ∀ q, q < s.size → hs s q ≠ 16) (m : Nat) : ∀ j : Nat, j + m = M → ∀ (k : Nat), 2 * m + 2 ≤ k →
    PA.octet_Unhex.l0 k s (unL s j ++ List.replicate m 0) (s.size : Int) ((2 * j : Nat) : Int) = some (unL s M, 0) := by
  induction m with
  | zero =>
    intro j hj k hk
    obtain ⟨k, rfl⟩ : ∃ k', k = k' + 1 := ⟨k - 1, by omega⟩
    obtain rfl : j = M := by omega
    rw [PA.octet_Unhex.l0, if_neg (by omega), if_neg (by omega), List.replicate_zero, List.append_nil]
  | succ m ih =>
    intro j hj k hk
    obtain ⟨k, rfl⟩ : ∃ k', k = k' + 1 + 1 := ⟨k - 2, by omega⟩
    have hb := bt_range s ((2 * j : Nat) : Int)
    have hb2 := bt_range s ((2 * j + 1 : Nat) : Int)
    have hi2 : Int.tdiv ((2 * j : Nat) : Int) 2 = ((j : Nat) : Int) := by rw [Int.tdiv_eq_ediv_of_nonneg (by omega)]; omega
    have hi3 : Int.tdiv ((2 * j + 1 : Nat) : Int) 2 = ((j : Nat) : Int) := by rw [Int.tdiv_eq_ediv_of_nonneg (by omega)]; omega
    have r0 : ∀ x : Int, rd (unL s j ++ x :: List.replicate m 0) (j : Int) = x := fun x => by
      unfold rd
      rw [Int.toNat_natCast, List.getD_eq_getElem?_getD, List.getElem?_append_right (by rw [unL_length]; omega), unL_length, Nat.sub_self]
      rfl
    have s0 : ∀ x y : Int, (unL s j ++ x :: List.replicate m 0).set j y = unL s j ++ y :: List.replicate m 0 := fun x y => by
      rw [List.set_append_right _ _ (by rw [unL_length]; omega), unL_length, Nat.sub_self]
      rfl
    have d0 := hd (2 * j) (by omega)
    have d1 := hd (2 * j + 1) (by omega)
    have g0 := hv_range (bt s ((2 * j : Nat) : Int))
    have g1 := hv_range (bt s ((2 * j + 1 : Nat) : Int))
    have o0 : Go.bits .or .u8 (0 * 16 % 256) (hv (bt s ((2 * j : Nat) : Int))) = hs s (2 * j) := by
      rw [or16 0 _ (by decide) (by decide) g0.1 (by unfold hs at d0; omega)]; unfold hs; omega
    have o1 : Go.bits .or .u8 (hs s (2 * j) * 16 % 256) (hv (bt s ((2 * j + 1 : Nat) : Int))) = 16 * hs s (2 * j) + hs s (2 * j + 1) := by
      exact or16 _ _ g0.1 (by unfold hs at d0 ⊢; omega) g1.1 (by unfold hs at d1; omega)
    have hlen : ∀ x : Int, ((unL s j ++ x :: List.replicate m 0).length : Int) = ((j + m + 1 : Nat) : Int) := fun x => by
      rw [List.length_append, unL_length, List.length_cons, List.length_replicate]; omega
    rw [List.replicate_succ, PA.octet_Unhex.l0, if_pos (by omega), if_pos (by omega), if_pos (by omega), half_f _ hb.1 hb.2 _ (by omega), Option.bind_some, hi2, IntWalk.wrap64_in (j : Int) (by omega), IntWalk.wrap64_in (((2 * j : Nat) : Int) + 1) (by omega), if_neg (show ¬ hv (bt s ((2 * j : Nat) : Int)) = 16 from d0), hlen, if_pos (by omega), if_pos (by omega), r0, o0, Int.toNat_natCast, s0]
    rw [show ((2 * j : Nat) : Int) + 1 = ((2 * j + 1 : Nat) : Int) by omega]
    rw [PA.octet_Unhex.l0, if_pos (by omega), if_pos (by omega), if_pos (by omega), half_f _ hb2.1 hb2.2 _ (by omega), Option.bind_some, hi3, IntWalk.wrap64_in (j : Int) (by omega), IntWalk.wrap64_in (((2 * j + 1 : Nat) : Int) + 1) (by omega), if_neg (show ¬ hv (bt s ((2 * j + 1 : Nat) : Int)) = 16 from d1), hlen, if_pos (by omega), if_pos (by omega), r0, o1, Int.toNat_natCast, s0]
    have := ih (j + 1) (by omega) k (by omega)
    rw [unL, List.append_assoc] at this
    rw [show ((2 * j + 1 : Nat) : Int) + 1 = ((2 * (j + 1) : Nat) : Int) by omega]
    exact this
end Go.Proofs.Ytglnepokollijaa.PureHex
namespace Go.Proofs.Ytglnepokollijaa.PureHex
set_option linter.unusedVariables false
set_option linter.unusedSimpArgs false
open Go.RowKit Go.Proofs.YtglnepokollijaaW.PrintWords Go.Proofs.YtglnepokollijaaW.PrintLast Go.Proofs.YtglnepokollijaaW.PrintMore

theorem refU_bad (s : ByteArray) (hN : s.size ≤ 1000000) (m : Nat) : ∀ i : Nat, i + m = s.size → (∃ q, i ≤ q ∧ q < s.size ∧ hs s q = 16) → ∀ (k : Nat), m + 1 ≤ k →
    PU.ciboriumref01_Unhex.l0 k s (i : Int) = some ([], 11) := by
  induction m with
  | zero => intro i hi ⟨q, h1, h2, _⟩; omega
  | succ m ih =>
    intro i hi ⟨q, h1, h2, h3⟩ k hk
    obtain ⟨k, rfl⟩ : ∃ k', k = k' + 1 := ⟨k - 1, by omega⟩
    have hb := bt_range s (i : Int)
    rw [PU.ciboriumref01_Unhex.l0, if_pos (by omega), if_pos (by omega), value_f _ hb.1 hb.2 k (by omega), Option.bind_some, IntWalk.wrap64_in ((i : Int) + 1) (by omega)]
    by_cases h4 : hv (bt s (i : Int)) = 16
    · rw [if_pos h4, if_neg (by decide)]
    · rw [if_neg h4, if_pos rfl]
      have hq : i + 1 ≤ q := by
        rcases Nat.lt_or_ge i q with h | h
        · exact h
        · obtain rfl : i = q := by omega
          exact absurd h3 h4
      exact ih (i + 1) (by omega) ⟨q, hq, h2, h3⟩ k (by omega)
theorem refU_ok (s : ByteArray) (hN : s.size ≤ 1000000) (hd : ∀ q, q < s.size → hs s q ≠ 16) (m : Nat) : ∀ i : Nat, i + m = s.size → ∀ (k : Nat), 1 ≤ k →
    PU.ciboriumref01_Unhex.l0 (k + m + 1) s (i : Int) = (if ((s.size : Int) % 2) = 1 then (some (([] : List Int), 10)) else (PU.ciboriumref01_Unhex.l1 k s ([] : List Int) 0)) := by
  induction m with
  | zero =>
    intro i hi k hk
    rw [Nat.add_zero, PU.ciboriumref01_Unhex.l0, if_neg (by omega)]
  | succ m ih =>
    intro i hi k hk
    have hb := bt_range s (i : Int)
    rw [show k + (m + 1) + 1 = (k + m + 1) + 1 by omega, PU.ciboriumref01_Unhex.l0, if_pos (by omega), if_pos (by omega), value_f _ hb.1 hb.2 _ (by omega), Option.bind_some, IntWalk.wrap64_in ((i : Int) + 1) (by omega), if_neg (show ¬ hv (bt s (i : Int)) = 16 from hd i (by omega)), if_pos rfl]
    exact ih (i + 1) (by omega) k hk
theorem refU_l1 (s : ByteArray) (hN : s.size ≤ 1000000) (M : Nat) (hM : s.size = 2 * M) (hd : ∀ q, q < s.size → hs s q ≠ 16) (m : Nat) : ∀ j : Nat, j + m = M → ∀ (k : Nat), m + 2 ≤ k →
    PU.ciboriumref01_Unhex.l1 k s (unL s j) ((2 * j : Nat) : Int) = some (unL s M, 0) := by
  induction m with
  | zero =>
    intro j hj k hk
    obtain ⟨k, rfl⟩ : ∃ k', k = k' + 1 := ⟨k - 1, by omega⟩
    obtain rfl : j = M := by omega
    rw [PU.ciboriumref01_Unhex.l1, if_neg (by omega)]
  | succ m ih =>
    intro j hj k hk
    obtain ⟨k, rfl⟩ : ∃ k', k = k' + 1 := ⟨k - 1, by omega⟩
    have hb := bt_range s ((2 * j : Nat) : Int)
    have hb2 := bt_range s ((2 * j + 1 : Nat) : Int)
    have d0 : ¬ hv (bt s ((2 * j : Nat) : Int)) = 16 := hd (2 * j) (by omega)
    have d1 : ¬ hv (bt s ((2 * j + 1 : Nat) : Int)) = 16 := hd (2 * j + 1) (by omega)
    have g0 := hv_range (bt s ((2 * j : Nat) : Int))
    have g1 := hv_range (bt s ((2 * j + 1 : Nat) : Int))
    have e : (16 * hv (bt s ((2 * j : Nat) : Int)) + hv (bt s ((2 * j + 1 : Nat) : Int))) % 256 = 16 * hs s (2 * j) + hs s (2 * j + 1) := by unfold hs; omega
    rw [PU.ciboriumref01_Unhex.l1, if_pos (by omega), if_pos (by omega), value_f _ hb.1 hb.2 k (by omega), Option.bind_some, if_neg d0, IntWalk.wrap64_in (((2 * j : Nat) : Int) + 1) (by omega), show ((2 * j : Nat) : Int) + 1 = ((2 * j + 1 : Nat) : Int) by omega, if_pos (by omega), if_pos (by omega), value_f _ hb2.1 hb2.2 k (by omega), Option.bind_some, if_neg d1, if_pos (by rw [unL_length]; omega), IntWalk.wrap64_in _ (by omega)]
    show PU.ciboriumref01_Unhex.l1 k s (unL s j ++ [(16 * hv (bt s ((2 * j : Nat) : Int)) + hv (bt s ((2 * j + 1 : Nat) : Int))) % 256]) _ = _
    rw [e, show ((2 * j : Nat) : Int) + 2 = ((2 * (j + 1) : Nat) : Int) by omega]
    exact ih (j + 1) (by omega) k (by omega)

/-- Both read the same. -/
theorem unhex_both (s : ByteArray) (hN : s.size ≤ 1000000) : ∃ r1 r2 K, (∀ k, K ≤ k → PA.octet_Unhex.f k s = some (r1, r2) ∧ PU.ciboriumref01_Unhex.f k s = some (r1, r2)) ∧ r1.length ≤ 1000000 := by
  have hi2 : (s.size : Int) / 2 = ((s.size / 2 : Nat) : Int) := by omega
  have hU : ∀ k, PA.octet_Unhex.f k s = PA.octet_Unhex.l0 k s (List.replicate (s.size / 2) 0) (s.size : Int) 0 := fun k => by
    rw [PA.octet_Unhex.f, hi2, IntWalk.wrap64_in _ (by omega), if_pos (by omega), if_pos (by omega), Int.toNat_natCast]
  by_cases hbad : ∃ q, 0 ≤ q ∧ q < s.size ∧ hs s q = 16
  · refine ⟨[], 11, s.size + 1, fun k hk => ⟨?_, ?_⟩, by simp⟩
    · rw [hU]; exact octU_bad s hN s.size 0 (by omega) hbad _ k hk
    · exact refU_bad s hN s.size 0 (by omega) hbad k hk
  · have hd : ∀ q, q < s.size → hs s q ≠ 16 := fun q hq h => hbad ⟨q, Nat.zero_le _, hq, h⟩
    by_cases ho : s.size % 2 = 1
    · refine ⟨[], 10, s.size + 2, fun k hk => ⟨?_, ?_⟩, by simp⟩
      · rw [hU]; exact octU_odd s hN ho hd s.size 0 (by omega) _ k hk
      · obtain ⟨k, rfl⟩ : ∃ k', k = k' + s.size + 1 := ⟨k - s.size - 1, by omega⟩
        show PU.ciboriumref01_Unhex.l0 _ s ((0 : Nat) : Int) = _
        rw [refU_ok s hN hd s.size 0 (by omega) k (by omega), if_pos (by omega)]
    · obtain ⟨M, hM⟩ : ∃ M, s.size = 2 * M := ⟨s.size / 2, by omega⟩
      refine ⟨unL s M, 0, 2 * s.size + 10, fun k hk => ⟨?_, ?_⟩, by rw [unL_length]; omega⟩
      · rw [hU, show s.size / 2 = M by omega]
        exact octU_even s hN M hM hd M 0 (by omega) k (by omega)
      · obtain ⟨k, rfl⟩ : ∃ k', k = k' + s.size + 1 := ⟨k - s.size - 1, by omega⟩
        show PU.ciboriumref01_Unhex.l0 _ s ((0 : Nat) : Int) = _
        rw [refU_ok s hN hd s.size 0 (by omega) k (by omega), if_neg (by omega)]
        exact refU_l1 s hN M hM hd M 0 (by omega) k (by omega)

/-- The reference's Hex. -/
theorem refhalf (n : Int) (h0 : 0 ≤ n) (h1 : n < 16) : PA.ciboriumref01_half.f n = some (Hex.dig n) := by
  have h : ∀ m : Fin 16, PA.ciboriumref01_half.f ((m.val : Nat) : Int) = some (Hex.dig ((m.val : Nat) : Int)) := by decide +kernel
  have := h ⟨n.toNat, by omega⟩
  simpa only [Int.toNat_of_nonneg h0] using this
theorem refHex (b : List Int) (hb : ∀ x ∈ b, 0 ≤ x ∧ x < 256) (hN : b.length ≤ 1000000) (m : Nat) : ∀ i : Nat, i + m = b.length → ∀ k, m + 1 ≤ k →
    PA.ciboriumref01_Hex.l0 k b (Hex.hexL (b.take i)) (i : Int) = some (strOfNums (Hex.hexL b)) := by
  induction m with
  | zero =>
    intro i hi k hk
    obtain ⟨k, rfl⟩ : ∃ k', k = k' + 1 := ⟨k - 1, by omega⟩
    rw [PA.ciboriumref01_Hex.l0, if_neg (by omega), show i = b.length by omega, List.take_length]
  | succ m ih =>
    intro i hi k hk
    obtain ⟨k, rfl⟩ : ∃ k', k = k' + 1 := ⟨k - 1, by omega⟩
    have hx := hb _ (List.getElem_mem (show i < b.length by omega))
    have hr : rd b (i : Int) = b[i]'(by omega) := by
      unfold rd
      rw [Int.toNat_natCast, List.getD_eq_getElem?_getD, List.getElem?_eq_getElem (by omega)]
      rfl
    have hl : (Hex.hexL (b.take i)).length ≤ 2000000 := by rw [Hex.hexL_length, List.length_take]; omega
    have e1 : Int.tdiv b[i] 16 % 256 = b[i] / 16 := by rw [Int.tdiv_eq_ediv_of_nonneg hx.1]; omega
    have e2 : Int.tmod b[i] 16 = b[i] % 16 := Int.tmod_eq_emod_of_nonneg hx.1
    rw [PA.ciboriumref01_Hex.l0, if_pos (by omega), if_pos (by omega), hr, e1, e2, refhalf _ (by omega) (by omega), Option.bind_some, refhalf _ (by omega) (by omega), Option.bind_some, Option.bind_some, if_pos (Nat.lt_of_le_of_lt (Nat.add_le_add_right hl _) (by simp)), IntWalk.wrap64_in _ (by omega), ← Hex.hexL_snoc, ← List.take_succ_eq_append_getElem]
    exact ih (i + 1) (by omega) k (by omega)

end Go.Proofs.Ytglnepokollijaa.PureHex
namespace Go.Proofs.Ytglnepokollijaa.PureOne
set_option linter.unusedVariables false
set_option linter.unusedSimpArgs false
open Go.RowKit Go.Proofs.YtglnepokollijaaW.PrintWords Go.Proofs.YtglnepokollijaaW.PrintLast Go.Proofs.YtglnepokollijaaW.PrintMore
open PureHex Hex

/-- Bytes as a text, and back. -/
theorem bytesOf_str (l : List Int) (hl : ∀ x ∈ l, 0 ≤ x ∧ x < 256) : bytesOf (strOfNums l) = l := by
  have e2 : (strOfNums l).data.toList = l.map fun n => UInt8.ofNat n.toNat := strOfNums_data l
  unfold bytesOf
  rw [e2, List.map_map]
  have h3 : l.map ((fun b : UInt8 => (b.toNat : Int)) ∘ fun n : Int => UInt8.ofNat n.toNat) = l.map id := by
    refine List.map_congr_left (fun x hx => ?_)
    have := hl x hx
    show ((UInt8.ofNat x.toNat).toNat : Int) = x
    rw [UInt8.toNat_ofNat', Nat.mod_eq_of_lt (by omega)]
    omega
  rw [h3, List.map_id]
theorem str_bytesOf (s : ByteArray) : strOfNums (bytesOf s) = s := by
  have e2 : (strOfNums (bytesOf s)).data.toList = (bytesOf s).map fun n => UInt8.ofNat n.toNat := strOfNums_data _
  have : (strOfNums (bytesOf s)).data.toList = s.data.toList := by
    rw [e2]
    unfold bytesOf
    rw [List.map_map]
    refine List.map_id'' (fun x => ?_) _
    simp
  exact ByteArray.ext (Array.toList_inj.1 this)
theorem str_size (l : List Int) : (strOfNums l).size = l.length := by
  have e2 : (strOfNums l).data.toList = l.map fun n => UInt8.ofNat n.toNat := strOfNums_data l
  have := congrArg List.length e2
  rw [List.length_map, Array.length_toList] at this
  exact this
theorem bt_at (s : ByteArray) (i : Nat) (h : i < (bytesOf s).length) : bt s (i : Int) = (bytesOf s)[i] := by
  have hs := bytesOf_length s
  unfold bt
  rw [dif_pos (by rw [Int.toNat_natCast]; omega)]
  simp only [Int.toNat_natCast, bytesOf, List.getElem_map, Array.getElem_toList]
  rfl
theorem bt_str (l : List Int) (hl : ∀ x ∈ l, 0 ≤ x ∧ x < 256) (i : Nat) (h : i < l.length) : bt (strOfNums l) (i : Int) = l[i] := by
  have e := bytesOf_str l hl
  have h2 : i < (bytesOf (strOfNums l)).length := by rw [e]; exact h
  rw [bt_at _ i h2]
  simp only [e]

theorem dig_hv (c : Int) (h0 : 0 ≤ c) (h1 : c ≤ 255) (h : hv c ≠ 16) : dig (hv c) = c := by
  have h2 : ∀ n : Fin 256, hv ((n.val : Nat) : Int) ≠ 16 → dig (hv ((n.val : Nat) : Int)) = ((n.val : Nat) : Int) := by decide +kernel
  have := h2 ⟨c.toNat, by omega⟩
  simp only [Int.toNat_of_nonneg h0] at this
  exact this h
theorem hv_dig (n : Int) (h0 : 0 ≤ n) (h1 : n < 16) : hv (dig n) = n ∧ 0 ≤ dig n ∧ dig n < 256 := by
  have h : ∀ m : Fin 16, hv (dig ((m.val : Nat) : Int)) = ((m.val : Nat) : Int) ∧ 0 ≤ dig ((m.val : Nat) : Int) ∧ dig ((m.val : Nat) : Int) < 256 := by decide +kernel
  have := h ⟨n.toNat, by omega⟩
  simpa only [Int.toNat_of_nonneg h0] using this
theorem hexL_range (b : List Int) (hb : ∀ x ∈ b, 0 ≤ x ∧ x < 256) : ∀ x ∈ hexL b, 0 ≤ x ∧ x < 256 := by
  intro x hx
  obtain ⟨y, hy, hx⟩ := List.mem_flatMap.1 hx
  have := hb y hy
  have h1 := hv_dig (y / 16) (by omega) (by omega)
  have h2 := hv_dig (y % 16) (by omega) (by omega)
  simp at hx
  rcases hx with rfl | rfl
  · exact h1.2
  · exact h2.2

theorem unL_hex (s : ByteArray) (M : Nat) (hM : s.size = 2 * M) (hd : ∀ q, q < s.size → hs s q ≠ 16) (j : Nat) (hj : j ≤ M) : hexL (unL s j) = (bytesOf s).take (2 * j) ∧ ∀ x ∈ unL s j, 0 ≤ x ∧ x < 256 := by
  have hl := bytesOf_length s
  induction j with
  | zero => exact ⟨rfl, fun x hx => by cases hx⟩
  | succ j ih =>
    obtain ⟨ih1, ih2⟩ := ih (by omega)
    have b0 := bt_range s ((2 * j : Nat) : Int)
    have b1 := bt_range s ((2 * j + 1 : Nat) : Int)
    have g0 := hv_range (bt s ((2 * j : Nat) : Int))
    have g1 := hv_range (bt s ((2 * j + 1 : Nat) : Int))
    have d0 : hv (bt s ((2 * j : Nat) : Int)) ≠ 16 := hd (2 * j) (by omega)
    have d1 : hv (bt s ((2 * j + 1 : Nat) : Int)) ≠ 16 := hd (2 * j + 1) (by omega)
    refine ⟨?_, fun x hx => ?_⟩
    · rw [unL, hexL_snoc, ih1]
      unfold hs
      rw [show (16 * hv (bt s ((2 * j : Nat) : Int)) + hv (bt s ((2 * j + 1 : Nat) : Int))) / 16 = hv (bt s ((2 * j : Nat) : Int)) by omega, show (16 * hv (bt s ((2 * j : Nat) : Int)) + hv (bt s ((2 * j + 1 : Nat) : Int))) % 16 = hv (bt s ((2 * j + 1 : Nat) : Int)) by omega, dig_hv _ b0.1 b0.2 d0, dig_hv _ b1.1 b1.2 d1, bt_at s _ (by omega), bt_at s _ (by omega), show 2 * (j + 1) = (2 * j + 1) + 1 by omega, List.take_succ_eq_append_getElem (by omega), List.take_succ_eq_append_getElem (by omega), List.append_assoc]
      rfl
    · rw [unL] at hx
      rcases List.mem_append.1 hx with h | h
      · exact ih2 x h
      · have e := List.mem_singleton.1 h
        unfold hs at e
        omega

/-- What Unhex takes, Hex writes so. -/
theorem unhex_one (s : ByteArray) (hN : s.size ≤ 1000000) : ∃ r1 r2 K, (∀ k, K ≤ k → PA.octet_Unhex.f k s = some (r1, r2)) ∧ r1.length ≤ 1000000 ∧ (∀ x ∈ r1, 0 ≤ x ∧ x < 256) ∧ ((r2 = 0 ∧ strOfNums (hexL r1) = s) ∨ (r2 ≠ 0 ∧ r1 = [])) := by
  have hi2 : (s.size : Int) / 2 = ((s.size / 2 : Nat) : Int) := by omega
  have hU : ∀ k, PA.octet_Unhex.f k s = PA.octet_Unhex.l0 k s (List.replicate (s.size / 2) 0) (s.size : Int) 0 := fun k => by
    rw [PA.octet_Unhex.f, hi2, IntWalk.wrap64_in _ (by omega), if_pos (by omega), if_pos (by omega), Int.toNat_natCast]
  by_cases hbad : ∃ q, 0 ≤ q ∧ q < s.size ∧ hs s q = 16
  · refine ⟨[], 11, s.size + 1, fun k hk => ?_, by simp, by simp, Or.inr ⟨by decide, rfl⟩⟩
    rw [hU]; exact octU_bad s hN s.size 0 (by omega) hbad _ k hk
  · have hd : ∀ q, q < s.size → hs s q ≠ 16 := fun q hq h => hbad ⟨q, Nat.zero_le _, hq, h⟩
    by_cases ho : s.size % 2 = 1
    · refine ⟨[], 10, s.size + 2, fun k hk => ?_, by simp, by simp, Or.inr ⟨by decide, rfl⟩⟩
      rw [hU]; exact octU_odd s hN ho hd s.size 0 (by omega) _ k hk
    · obtain ⟨M, hM⟩ : ∃ M, s.size = 2 * M := ⟨s.size / 2, by omega⟩
      have hx := unL_hex s M hM hd M (Nat.le_refl _)
      refine ⟨unL s M, 0, 2 * s.size + 10, fun k hk => ?_, by rw [unL_length]; omega, hx.2, Or.inl ⟨rfl, ?_⟩⟩
      · rw [hU, show s.size / 2 = M by omega]
        exact octU_even s hN M hM hd M 0 (by omega) k (by omega)
      · rw [hx.1, List.take_of_length_le (by rw [bytesOf_length]; omega), str_bytesOf]
theorem hex_at (b : List Int) : ∀ (j : Nat) (h : j < b.length) (h0 : 2 * j < (hexL b).length) (h1 : 2 * j + 1 < (hexL b).length), (hexL b)[2 * j] = dig (b[j] / 16) ∧ (hexL b)[2 * j + 1] = dig (b[j] % 16) := by
  induction b with
  | nil => intro j h; simp at h
  | cons x b ih =>
    intro j h h0 h1
    have e : hexL (x :: b) = dig (x / 16) :: dig (x % 16) :: hexL b := by simp [hexL]
    have hl := hexL_length b
    cases j with
    | zero => simp only [e]; exact ⟨rfl, rfl⟩
    | succ j =>
      have hj : j < b.length := by simpa using h
      have := ih j hj (by omega) (by omega)
      simp only [e]
      exact this
/-- What Hex writes, Unhex takes as what it was. -/
theorem unhex_back (b : List Int) (hb : ∀ x ∈ b, 0 ≤ x ∧ x < 256) (hN : b.length ≤ 400000) (k : Nat) (hk : 4 * b.length + 10 ≤ k) : PA.octet_Unhex.f k (strOfNums (hexL b)) = some (b, 0) := by
  obtain ⟨s, hs'⟩ : ∃ s, s = strOfNums (hexL b) := ⟨_, rfl⟩
  have hr := hexL_range b hb
  have hl := hexL_length b
  have hsz : s.size = 2 * b.length := by rw [hs', str_size, hl]
  have hat : ∀ j (h : j < b.length), hs s (2 * j) = b[j] / 16 ∧ hs s (2 * j + 1) = b[j] % 16 := by
    intro j h
    have hx := hb _ (List.getElem_mem h)
    have h2 := hex_at b j h (by omega) (by omega)
    unfold hs
    rw [hs', bt_str _ hr _ (by omega), bt_str _ hr _ (by omega), h2.1, h2.2]
    exact ⟨(hv_dig _ (by omega) (by omega)).1, (hv_dig _ (by omega) (by omega)).1⟩
  have hd : ∀ q, q < s.size → hs s q ≠ 16 := by
    intro q hq
    have hj : q / 2 < b.length := by omega
    have hx := hb _ (List.getElem_mem hj)
    have h2 := hat (q / 2) hj
    rcases Nat.mod_two_eq_zero_or_one q with h | h
    · rw [show q = 2 * (q / 2) by omega, h2.1]; omega
    · rw [show q = 2 * (q / 2) + 1 by omega, h2.2]; omega
  have hun : ∀ j, j ≤ b.length → unL s j = b.take j := by
    intro j
    induction j with
    | zero => intro _; rfl
    | succ j ih =>
      intro hj
      have h2 := hat j (by omega)
      rw [unL, ih (by omega), h2.1, h2.2, List.take_succ_eq_append_getElem (by omega)]
      congr 2
      omega
  have hi2 : (s.size : Int) / 2 = ((s.size / 2 : Nat) : Int) := by omega
  have hU : ∀ k, PA.octet_Unhex.f k s = PA.octet_Unhex.l0 k s (List.replicate (s.size / 2) 0) (s.size : Int) 0 := fun k => by
    rw [PA.octet_Unhex.f, hi2, IntWalk.wrap64_in _ (by omega), if_pos (by omega), if_pos (by omega), Int.toNat_natCast]
  rw [← hs', hU, show s.size / 2 = b.length by omega]
  have := octU_even s (by omega) b.length hsz hd b.length 0 (by omega) k (by omega)
  rw [hun b.length (Nat.le_refl _), List.take_length] at this
  exact this

/-- Both readers of digits, at once. -/
theorem unhex_all (s : ByteArray) (hN : s.size ≤ 1000000) : ∃ r1 r2 K, PA.octet_Unhex.f K s = some (r1, r2) ∧ PU.ciboriumref01_Unhex.f K s = some (r1, r2) ∧ r1.length ≤ 1000000 ∧ (∀ x ∈ r1, 0 ≤ x ∧ x < 256) ∧ ((r2 = 0 ∧ strOfNums (hexL r1) = s) ∨ (r2 ≠ 0 ∧ r1 = [])) := by
  obtain ⟨r1, r2, K, h1, h2, h3, h4⟩ := unhex_one s hN
  obtain ⟨q1, q2, K2, g1, g2⟩ := unhex_both s hN
  have e1 := h1 (K + K2) (by omega)
  obtain ⟨e2, e3⟩ := g1 (K + K2) (by omega)
  have e : (q1, q2) = (r1, r2) := Option.some.inj (e2.symm.trans e1)
  rw [e] at e3
  exact ⟨r1, r2, K + K2, e1, e3, h2, h3, h4⟩
end Go.Proofs.Ytglnepokollijaa.PureOne
