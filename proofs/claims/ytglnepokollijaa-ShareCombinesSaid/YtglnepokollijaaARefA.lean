/- What is said here: what the reference's AtZero comes to. -/
import Derived.Test.YtglnepokollijaaAEvM
import Derived.Test.YtglnepokollijaaLagT
namespace Go.Proofs.Ytglnepokollijaa.ARefA
set_option linter.unusedVariables false
set_option linter.unusedSimpArgs false
open Go.RowKit Go.Proofs.Ytglnepokollijaa.PA Go.Proofs.YtglnepokollijaaW.PrintWords Go.Proofs.YtglnepokollijaaW.PrintLast Go.Proofs.Ytglnepokollijaa.Gf Go.Proofs.Ytglnepokollijaa.Gfi Go.Proofs.Ytglnepokollijaa.Poly Go.Proofs.Ytglnepokollijaa.Lag

theorem rd_ints (l : List B) (i : Nat) : rd (ints l) (i : Int) = ofB (l.getD i 0#8) := by
  unfold rd
  rw [Int.toNat_natCast, ints_getD]
theorem next (i : Nat) (h : i ≤ 1000000) : wrap64 ((i : Int) + 1) = ((i + 1 : Nat) : Int) := by unfold wrap64; omega

section
variable (xs ys : List B) (hl : ys.length = xs.length) (hn : xs.length ≤ 255)
include hl hn
/-- The product of term i, from place j on; behind it the other terms. -/
theorem l3_f (hok : ok xs) (i : Nat) (hi : i < xs.length) (s : B) {r : Int × Int} (hr : ∃ K, ∀ k, K ≤ k → ciboriumref03_AtZero.l2 k (ints xs) (ints ys) (ofB (s ^^^ prod xs ys i xs.length)) ((i + 1 : Nat) : Int) = some r) (n : Nat) :
    ∀ j, j + n = xs.length → ∃ K, ∀ k, K ≤ k → ciboriumref03_AtZero.l3 k (ints xs) (ints ys) (ofB s) (i : Int) (ofB (prod xs ys i j)) (j : Int) = some r := by
  induction n with
  | zero =>
    intro j hj
    obtain ⟨K, hK⟩ := hr
    refine ⟨K + 1, fun k hk => ?_⟩
    obtain ⟨k, rfl⟩ : ∃ n, k = n + 1 := ⟨k - 1, by omega⟩
    simp only [ciboriumref03_AtZero.l3]
    rw [if_neg (by rw [ints_length]; omega), bits_xor, next i (by omega), show j = xs.length by omega]
    exact hK k (by omega)
  | succ n ih =>
    intro j hj
    obtain ⟨K, hK⟩ := ih (j + 1) (by omega)
    refine ⟨K + 400, fun k hk => ?_⟩
    obtain ⟨k, rfl⟩ : ∃ n, k = n + 1 := ⟨k - 1, by omega⟩
    simp only [ciboriumref03_AtZero.l3]
    rw [if_pos (by rw [ints_length]; omega), next j (by omega)]
    by_cases hji : j = i
    · have hp : prod xs ys i (j + 1) = prod xs ys i j := by rw [prod, if_pos hji]
      rw [if_pos (by omega), ← hp]
      exact hK k (by omega)
    · have hp : prod xs ys i (j + 1) = mul (prod xs ys i j) (mul (xs.getD j 0#8) (inv (xs.getD j 0#8 ^^^ xs.getD i 0#8))) := by rw [prod, if_neg hji]
      have hx := xor_ne (getD_inj hok (i := j) (k := i) (by omega) hi hji)
      rw [if_neg (by omega), if_pos (by omega), if_pos (by omega), if_pos (by rw [ints_length]; omega), rd_ints, rd_ints, bits_xor, ARef.div_f (by omega), Option.bind_some, if_neg hx, ARef.mul_f (by omega), Option.bind_some, ← hp]
      exact hK k (by omega)
theorem l2_f (hok : ok xs) (n : Nat) : ∀ i, i + n = xs.length → ∃ K, ∀ k, K ≤ k → ciboriumref03_AtZero.l2 k (ints xs) (ints ys) (ofB (Lag.sum xs ys i)) (i : Int) = some (ofB (atZero xs ys), 0) := by
  induction n with
  | zero =>
    intro i hi
    refine ⟨1, fun k hk => ?_⟩
    obtain ⟨k, rfl⟩ : ∃ n, k = n + 1 := ⟨k - 1, by omega⟩
    simp only [ciboriumref03_AtZero.l2]
    rw [if_neg (by rw [ints_length]; omega), show i = xs.length by omega]
    rfl
  | succ n ih =>
    intro i hi
    have h2 := ih (i + 1) (by omega)
    obtain ⟨K, hK⟩ := l3_f xs ys hl hn hok i (by omega) (Lag.sum xs ys i) h2 xs.length 0 (by omega)
    refine ⟨K + 1, fun k hk => ?_⟩
    obtain ⟨k, rfl⟩ : ∃ n, k = n + 1 := ⟨k - 1, by omega⟩
    simp only [ciboriumref03_AtZero.l2]
    rw [if_pos (by rw [ints_length]; omega), if_pos (by omega), if_pos (by rw [ints_length]; omega), rd_ints]
    exact hK k (by omega)
/-- Place i is held against those ahead of it, from j on. -/
theorem l1_f (i : Nat) (hi : i < xs.length) (ht : ok (xs.take i)) {r : Int × Int} (hr : ok (xs.take (i + 1)) → ∃ K, ∀ k, K ≤ k → ciboriumref03_AtZero.l0 k (ints xs) (ints ys) ((i + 1 : Nat) : Int) = some r) (hb : ¬ ok (xs.take (i + 1)) → r = (0, 31)) (n : Nat) :
    ∀ j, j + n = i → (∀ q, q < j → xs.getD q 0#8 ≠ xs.getD i 0#8) → ∃ K, ∀ k, K ≤ k → ciboriumref03_AtZero.l1 k (ints xs) (ints ys) (i : Int) (j : Int) = some r := by
  have hsn := take_snoc xs i hi
  induction n with
  | zero =>
    intro j hj hq
    have hmem : xs.getD i 0#8 ∉ xs.take i := by
      intro hm
      obtain ⟨q, hq1, hq2⟩ := List.mem_iff_getElem.1 hm
      have hq3 : q < i := by rw [List.length_take] at hq1; omega
      apply hq q (by omega)
      rw [← hq2, List.getElem_take, List.getD_eq_getElem?_getD, List.getElem?_eq_getElem (by omega)]
      rfl
    by_cases h0 : xs.getD i 0#8 = 0#8
    · have : r = (0, 31) := hb (by rw [hsn, ok_snoc]; exact fun h => h.2.1 h0)
      refine ⟨1, fun k hk => ?_⟩
      obtain ⟨k, rfl⟩ : ∃ n, k = n + 1 := ⟨k - 1, by omega⟩
      simp only [ciboriumref03_AtZero.l1]
      rw [if_neg (by omega), if_pos (by omega), if_pos (by rw [ints_length]; omega), rd_ints, h0, if_pos ofB_zero, this]
    · obtain ⟨K, hK⟩ := hr (by rw [hsn, ok_snoc]; exact ⟨ht, h0, hmem⟩)
      refine ⟨K + 1, fun k hk => ?_⟩
      obtain ⟨k, rfl⟩ : ∃ n, k = n + 1 := ⟨k - 1, by omega⟩
      simp only [ciboriumref03_AtZero.l1]
      rw [if_neg (by omega), if_pos (by omega), if_pos (by rw [ints_length]; omega), rd_ints, if_neg (fun h => h0 (ofB_eq_zero.1 h)), next i (by omega)]
      exact hK k (by omega)
  | succ n ih =>
    intro j hj hq
    by_cases he : xs.getD j 0#8 = xs.getD i 0#8
    · have : r = (0, 31) := hb (by
        rw [hsn, ok_snoc]
        refine fun h => h.2.2 ?_
        rw [← he, List.mem_iff_getElem]
        refine ⟨j, by rw [List.length_take]; omega, ?_⟩
        rw [List.getElem_take, List.getD_eq_getElem?_getD, List.getElem?_eq_getElem (by omega)]
        rfl)
      refine ⟨1, fun k hk => ?_⟩
      obtain ⟨k, rfl⟩ : ∃ n, k = n + 1 := ⟨k - 1, by omega⟩
      simp only [ciboriumref03_AtZero.l1]
      rw [if_pos (by omega), if_pos (by omega), if_pos (by rw [ints_length]; omega), if_pos (by omega), if_pos (by rw [ints_length]; omega), rd_ints, rd_ints, he, if_pos rfl, this]
    · obtain ⟨K, hK⟩ := ih (j + 1) (by omega) (fun q hq' => by
        rcases Nat.lt_or_ge q j with h | h
        · exact hq q h
        · obtain rfl : q = j := by omega
          exact he)
      refine ⟨K + 1, fun k hk => ?_⟩
      obtain ⟨k, rfl⟩ : ∃ n, k = n + 1 := ⟨k - 1, by omega⟩
      simp only [ciboriumref03_AtZero.l1]
      rw [if_pos (by omega), if_pos (by omega), if_pos (by rw [ints_length]; omega), if_pos (by omega), if_pos (by rw [ints_length]; omega), rd_ints, rd_ints, if_neg (fun h => he (ofB_inj h)), next j (by omega)]
      exact hK k (by omega)
theorem l0_f (n : Nat) : ∀ i, i + n = xs.length → ok (xs.take i) → ∃ K, ∀ k, K ≤ k → ciboriumref03_AtZero.l0 k (ints xs) (ints ys) (i : Int) = some (if ok xs then (ofB (atZero xs ys), 0) else (0, 31)) := by
  induction n with
  | zero =>
    intro i hi ht
    have hok : ok xs := by rwa [show i = xs.length by omega, List.take_length] at ht
    obtain ⟨K, hK⟩ := l2_f xs ys hl hn hok xs.length 0 (by omega)
    refine ⟨K + 1, fun k hk => ?_⟩
    obtain ⟨k, rfl⟩ : ∃ n, k = n + 1 := ⟨k - 1, by omega⟩
    simp only [ciboriumref03_AtZero.l0]
    rw [if_neg (by rw [ints_length]; omega), if_pos hok]
    exact hK k (by omega)
  | succ n ih =>
    intro i hi ht
    obtain ⟨K, hK⟩ := l1_f xs ys hl hn i (by omega) ht (r := if ok xs then (ofB (atZero xs ys), 0) else (0, 31)) (fun h => ih (i + 1) (by omega) h) (fun h => if_neg (fun ho => h (ok_take ho _))) i 0 (by omega) (fun q hq => by omega)
    refine ⟨K + 1, fun k hk => ?_⟩
    obtain ⟨k, rfl⟩ : ∃ n, k = n + 1 := ⟨k - 1, by omega⟩
    simp only [ciboriumref03_AtZero.l0]
    rw [if_pos (by rw [ints_length]; omega)]
    exact hK k (by omega)
end
/-- The reference's AtZero, of any points. -/
theorem atZero_f (xs ys : List B) (hm : xs.length ≤ 1000000) : ∃ k, ciboriumref03_AtZero.f k (ints xs) (ints ys) = some (if xs.length = 0 ∨ xs.length ≠ ys.length ∨ ¬ ok xs then (0, 31) else (ofB (atZero xs ys), 0)) := by
  by_cases h : xs.length = 0 ∨ xs.length ≠ ys.length ∨ 255 < xs.length
  · refine ⟨1, ?_⟩
    have hb : xs.length = 0 ∨ xs.length ≠ ys.length ∨ ¬ ok xs := by
      rcases h with h | h | h
      · exact .inl h
      · exact .inr (.inl h)
      · exact .inr (.inr (fun ho => by have := ok_length ho; omega))
    rw [if_pos hb]
    unfold ciboriumref03_AtZero.f
    rw [ints_length, ints_length]
    by_cases h0 : xs.length = 0
    · rw [if_pos (by omega)]
      simp [ciboriumref03_AtZero.j0]
    · rw [if_neg (by omega)]
      by_cases h1 : xs.length = ys.length
      · rw [if_pos (by omega), show decide ((xs.length : Int) > 255) = true by simp; omega]
        simp [ciboriumref03_AtZero.j0]
      · rw [if_neg (by omega)]
        simp [ciboriumref03_AtZero.j0]
  · have h0 : xs.length ≠ 0 := fun e => h (.inl e)
    have h1 : xs.length = ys.length := by
      rcases Nat.decEq xs.length ys.length with e | e
      · exact absurd (.inr (.inl e)) h
      · exact e
    have h2 : xs.length ≤ 255 := by omega
    obtain ⟨K, hK⟩ := l0_f xs ys h1.symm h2 xs.length 0 (by omega) ok_nil
    refine ⟨K + 1, ?_⟩
    unfold ciboriumref03_AtZero.f
    rw [ints_length, ints_length, if_neg (by omega), if_pos (by omega), show decide ((xs.length : Int) > 255) = false by simp; omega]
    simp only [ciboriumref03_AtZero.j0]
    rw [if_neg (by simp)]
    have := hK K (by omega)
    rw [show (((0 : Nat)) : Int) = 0 from rfl] at this
    rw [this]
    by_cases ho : ok xs
    · rw [if_pos ho, if_neg (by rintro (e | e | e); exact h0 e; exact e h1; exact e ho)]
    · rw [if_neg ho, if_pos (.inr (.inr ho))]
end Go.Proofs.Ytglnepokollijaa.ARefA
