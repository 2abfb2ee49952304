/- What is said here: Eval, of the program and of the reference, is a polynomial's value. -/
import Derived.Test.YtaadeokgcacibaaPoly
import Derived.Test.YtaadeokgcacibaaAFn
import Derived.Test.YtaadeokgcacibaaARef
namespace Go.Proofs.Ytaadeokgcacibaa.AEv
set_option linter.unusedVariables false
set_option linter.unusedSimpArgs false
open Go.RowKit Go.Proofs.Ytaadeokgcacibaa.PA Go.Proofs.YtaadeokgcacibaaW.PrintWords Go.Proofs.YtaadeokgcacibaaW.PrintLast Go.Proofs.Ytaadeokgcacibaa.Gf Go.Proofs.Ytaadeokgcacibaa.Gfi Go.Proofs.Ytaadeokgcacibaa.Poly

theorem eval_l0 (bs : List B) (x : B) (hm : bs.length ≤ 1000000000000000) (n : Nat) : ∀ (k : Nat), n ≤ bs.length → n + 20 < k →
    field_Eval.l0 k (ints bs) (ofB x) (ofB (ev x (bs.drop n))) ((n : Int) - 1) = some (ofB (ev x bs)) := by
  induction n with
  | zero =>
    intro k hn hk
    obtain ⟨k, rfl⟩ : ∃ n, k = n + 1 := ⟨k - 1, by omega⟩
    simp only [field_Eval.l0]
    rw [if_neg (by omega), List.drop_zero]
  | succ n ih =>
    intro k hn hk
    obtain ⟨k, rfl⟩ : ∃ n, k = n + 1 := ⟨k - 1, by omega⟩
    simp only [field_Eval.l0]
    rw [if_pos (by omega), AFn.mul_f (by omega), Option.bind_some, if_pos (by omega), if_pos (by rw [ints_length]; omega)]
    have e1 : wrap64 (((n + 1 : Nat) : Int) - 1 - 1) = (n : Int) - 1 := by unfold wrap64; omega
    have e2 : rd (ints bs) (((n + 1 : Nat) : Int) - 1) = ofB (bs.getD n 0#8) := by
      unfold rd
      rw [show (((n + 1 : Nat) : Int) - 1).toNat = n by omega, ints_getD]
    rw [e1, e2, bits_xor, BitVec.xor_comm, mul_comm]
    have e3 : bs.getD n 0#8 ^^^ mul x (ev x (bs.drop (n + 1))) = ev x (bs.drop n) := by
      rw [drop_step bs n (by omega)]
      rfl
    rw [e3]
    exact ih k (by omega) (by omega)
theorem eval_f (bs : List B) (x : B) (hm : bs.length ≤ 1000000000000000) {k : Nat} (hk : bs.length + 20 < k) : field_Eval.f k (ints bs) (ofB x) = some (ofB (ev x bs)) := by
  unfold field_Eval.f
  have h := eval_l0 bs x hm bs.length k (by omega) hk
  rw [List.drop_length] at h
  have e1 : wrap64 (((ints bs).length : Int) - 1) = (bs.length : Int) - 1 := by rw [ints_length]; unfold wrap64; omega
  rw [e1]
  exact h

theorem ref_l0 (bs : List B) (x : B) (hm : bs.length ≤ 1000000000000000) (n : Nat) : ∀ (k i : Nat) (s p : B), i + n = bs.length → n + 40 < k →
    ciboriumref03_Eval.l0 k (ints bs) (ofB x) (ofB s) (ofB p) (i : Int) = some (ofB (s ^^^ mul p (ev x (bs.drop i)))) := by
  induction n with
  | zero =>
    intro k i s p hi hk
    obtain ⟨k, rfl⟩ : ∃ n, k = n + 1 := ⟨k - 1, by omega⟩
    simp only [ciboriumref03_Eval.l0]
    rw [if_neg (by rw [ints_length]; omega), show bs.drop i = [] from List.drop_eq_nil_of_le (by omega)]
    show some (ofB s) = some (ofB (s ^^^ mul p 0#8))
    rw [mul_zero, BitVec.xor_zero]
  | succ n ih =>
    intro k i s p hi hk
    obtain ⟨k, rfl⟩ : ∃ n, k = n + 1 := ⟨k - 1, by omega⟩
    simp only [ciboriumref03_Eval.l0]
    have e1 : wrap64 ((i : Int) + 1) = ((i + 1 : Nat) : Int) := by unfold wrap64; omega
    have e2 : rd (ints bs) (i : Int) = ofB (bs.getD i 0#8) := by
      unfold rd
      rw [Int.toNat_natCast, ints_getD]
    rw [if_pos (by rw [ints_length]; omega), if_pos (by omega), e2, ARef.mul_f (by omega), Option.bind_some, ARef.mul_f (by omega), Option.bind_some, bits_xor, e1, ih k (i + 1) _ _ (by omega) (by omega)]
    rw [drop_step bs i (by omega)]
    show some (ofB (s ^^^ mul (bs.getD i 0#8) p ^^^ mul (mul p x) (ev x (bs.drop (i + 1))))) = some (ofB (s ^^^ mul p (bs.getD i 0#8 ^^^ mul x (ev x (bs.drop (i + 1))))))
    rw [mul_add, mul_assoc, mul_comm _ p, BitVec.xor_assoc]
theorem ref_f (bs : List B) (x : B) (hm : bs.length ≤ 1000000000000000) {k : Nat} (hk : bs.length + 40 < k) : ciboriumref03_Eval.f k (ints bs) (ofB x) = some (ofB (ev x bs)) := by
  unfold ciboriumref03_Eval.f
  have h := ref_l0 bs x hm bs.length k 0 0#8 1#8 (by omega) hk
  rw [List.drop_zero, one_mul, BitVec.zero_xor] at h
  exact h
end Go.Proofs.Ytaadeokgcacibaa.AEv
