/- What is said here: what the printed functions of package field, and of its reference, come to; Eval is a polynomial's value. -/
import Derived.Test.YtglnepokollijaaPoly
import Derived.Test.YtglnepokollijaaPAx
namespace Go.Proofs.Ytglnepokollijaa.AFn
set_option linter.unusedVariables false
set_option linter.unusedSimpArgs false
open Go.RowKit Go.Proofs.Ytglnepokollijaa.PA Go.Proofs.YtglnepokollijaaW.PrintWords Go.Proofs.YtglnepokollijaaW.PrintLast Go.Proofs.Ytglnepokollijaa.Gf Go.Proofs.Ytglnepokollijaa.Gfi

theorem mul_l0 (m : Nat) : ∀ (k : Nat) (a b s : B), b.toNat < 2 ^ m → m < k → field_Mul.l0 k (ofB a) (ofB b) (ofB s) = some (ofB (s ^^^ mulN m a b)) := by
  induction m with
  | zero =>
    intro k a b s hb hk
    obtain ⟨k, rfl⟩ : ∃ n, k = n + 1 := ⟨k - 1, by omega⟩
    have : b = 0#8 := by apply BitVec.eq_of_toNat_eq; simpa using hb
    subst this
    simp only [field_Mul.l0]
    rw [if_pos ofB_zero]
    simp [mulN]
  | succ m ih =>
    intro k a b s hb hk
    obtain ⟨k, rfl⟩ : ∃ n, k = n + 1 := ⟨k - 1, by omega⟩
    simp only [field_Mul.l0]
    by_cases h0 : b = 0#8
    · subst h0
      rw [if_pos ofB_zero]
      have hz : ∀ (m : Nat) (a : B), mulN m a 0#8 = 0#8 := by
        intro m
        induction m with
        | zero => intro a; rfl
        | succ m ih => intro a; rw [mulN, BitVec.zero_ushiftRight, ih]; simp
      rw [hz]
      simp
    · rw [if_neg (fun h => h0 (ofB_eq_zero.1 h)), dbl_ofB, half_ofB, times_bit, bits_xor]
      rw [ih k (xt a) (b >>> 1) _ (by rw [BitVec.toNat_ushiftRight, Nat.shiftRight_eq_div_pow]; omega) (by omega)]
      rw [mulN, BitVec.xor_assoc]

theorem mul_f {k : Nat} (hk : 8 < k) (a b : B) : field_Mul.f k (ofB a) (ofB b) = some (ofB (mul a b)) := by
  unfold field_Mul.f
  have := mul_l0 8 k a b 0#8 b.isLt hk
  rw [ofB_zero] at this
  rw [this]
  simp [mul]
end Go.Proofs.Ytglnepokollijaa.AFn

namespace Go.Proofs.Ytglnepokollijaa.ARef
set_option linter.unusedVariables false
set_option linter.unusedSimpArgs false
open Go.RowKit Go.Proofs.Ytglnepokollijaa.PA Go.Proofs.YtglnepokollijaaW.PrintWords Go.Proofs.YtglnepokollijaaW.PrintLast Go.Proofs.YtglnepokollijaaW.PrintMore Go.Proofs.Ytglnepokollijaa.Gf Go.Proofs.Ytglnepokollijaa.Gfi Go.Proofs.Ytglnepokollijaa.Gfr

theorem wrap_nat {n : Nat} (h : n < 2 ^ 62) : wrap64 (n : Int) = (n : Int) := by
  have h2 : n < 4611686018427387904 := h
  unfold wrap64
  omega
theorem xor_i64 {p q : Nat} (hp : p < 2 ^ 62) (hq : q < 2 ^ 62) : Go.bits .xor .i64 (p : Int) (q : Int) = ((p ^^^ q : Nat) : Int) := by
  have hx := Nat.xor_lt_two_pow hp hq
  have h : ∀ n : Nat, n < 2 ^ 62 → (BitVec.ofInt 64 (n : Int)).toNat = n := by
    intro n hn
    rw [BitVec.ofInt_natCast, BitVec.toNat_ofNat]
    omega
  unfold Go.bits
  show IntKind.i64.wrap (((BitVec.ofInt 64 (p : Int)) ^^^ (BitVec.ofInt 64 (q : Int))).toNat : Int) = _
  rw [BitVec.toNat_xor, h p hp, h q hq, i64_w]
  exact wrap_nat hx
theorem bit_of (b i : Nat) : (((b : Int) / 2 ^ i).tmod 2 = 1) ↔ b.testBit i = true := by
  rw [Nat.testBit_eq_decide_div_mod_eq, decide_eq_true_iff]
  have e : ((b : Int) / 2 ^ i) = ((b / 2 ^ i : Nat) : Int) := by simp
  rw [e]
  generalize b / 2 ^ i = c
  rw [Int.tmod_eq_emod_of_nonneg (by omega)]
  omega

theorem l0_f {a b : Nat} (ha : a < 256) (n : Nat) : ∀ (k i p : Nat), i + n = 8 → p < 2 ^ 15 → n < k →
    ciboriumref03_Mul.l0 k (a : Int) (b : Int) (p : Int) (i : Int) = ciboriumref03_Mul.l1 (k - n - 1) ((cl a b n i p : Nat) : Int) 14 := by
  induction n with
  | zero =>
    intro k i p hi hp hk
    obtain ⟨k, rfl⟩ : ∃ n, k = n + 1 := ⟨k - 1, by omega⟩
    simp only [ciboriumref03_Mul.l0, cl]
    rw [if_neg (by omega)]
    rfl
  | succ n ih =>
    intro k i p hi hp hk
    obtain ⟨k, rfl⟩ : ∃ n, k = n + 1 := ⟨k - 1, by omega⟩
    simp only [ciboriumref03_Mul.l0]
    rw [if_pos (by omega), if_pos (by omega)]
    have e1 : shr .u8 (b : Int) (i : Int) = (b : Int) / 2 ^ i := by
      have := shr_small (k := .u8) (x := (b : Int)) (y := (i : Int)) rfl (by show (i : Int) ≤ 8; omega)
      rw [← this, Int.toNat_natCast]
    have e2 : wrap64 ((i : Int) + 1) = ((i + 1 : Nat) : Int) := by unfold wrap64; omega
    have hpow : (2 : Nat) ^ i ≤ 2 ^ 7 := Nat.pow_le_pow_right (by omega) (by omega)
    have hsh : a * 2 ^ i ≤ 255 * 2 ^ 7 := Nat.mul_le_mul (by omega) hpow
    have e3 : shl .i64 (wrap64 (a : Int)) (i : Int) = ((a <<< i : Nat) : Int) := by
      have h1 := shl_small (k := .i64) (x := wrap64 (a : Int)) (y := (i : Int)) rfl (by show (i : Int) ≤ 64; omega)
      have h2 : (a : Int) * 2 ^ i = ((a * 2 ^ i : Nat) : Int) := by simp
      rw [← h1, Int.toNat_natCast, wrap_nat (Nat.lt_of_lt_of_le ha (by decide)), h2, i64_w, Nat.shiftLeft_eq]
      exact wrap_nat (Nat.lt_of_le_of_lt hsh (by decide))
    have hlt : a <<< i < 2 ^ 15 := by rw [Nat.shiftLeft_eq]; exact Nat.lt_of_le_of_lt hsh (by decide)
    rw [e1, e2, e3, cl, show k + 1 - (n + 1) - 1 = k - n - 1 by omega]
    by_cases hb : b.testBit i = true
    · rw [if_pos ((bit_of b i).2 hb), xor_i64 (Nat.lt_of_lt_of_le hp (by decide)) (Nat.lt_of_lt_of_le hlt (by decide)), if_pos hb]
      exact ih k (i + 1) _ (by omega) (Nat.xor_lt_two_pow hp hlt) (by omega)
    · rw [if_neg (fun h => hb ((bit_of b i).1 h)), if_neg hb, Nat.xor_zero]
      exact ih k (i + 1) _ (by omega) hp (by omega)

theorem l1_f (n : Nat) : ∀ (k p : Nat), n ≤ 7 → p < 2 ^ 15 → n < k → ciboriumref03_Mul.l1 k (p : Int) ((n : Int) + 7) = some (((Gfr.rd n p : Nat) : Int) % 256) := by
  induction n with
  | zero =>
    intro k p hn hp hk
    obtain ⟨k, rfl⟩ : ∃ n, k = n + 1 := ⟨k - 1, by omega⟩
    simp only [ciboriumref03_Mul.l1, Gfr.rd]
    rw [if_neg (by omega)]
  | succ n ih =>
    intro k p hn hp hk
    obtain ⟨k, rfl⟩ : ∃ n, k = n + 1 := ⟨k - 1, by omega⟩
    simp only [ciboriumref03_Mul.l1]
    have e0 : ((n + 1 : Nat) : Int) + 7 = ((n + 8 : Nat) : Int) := by omega
    rw [e0, if_pos (by omega), if_pos (by omega)]
    have e1 : shr .i64 (p : Int) ((n + 8 : Nat) : Int) = (p : Int) / 2 ^ (n + 8) := by
      have := shr_small (k := .i64) (x := (p : Int)) (y := ((n + 8 : Nat) : Int)) rfl (by show ((n + 8 : Nat) : Int) ≤ 64; omega)
      rw [← this, Int.toNat_natCast]
    have e2 : wrap64 (((n + 8 : Nat) : Int) - 1) = (n : Int) + 7 := by unfold wrap64; omega
    have e3 : wrap64 (((n + 8 : Nat) : Int) - 8) = (n : Int) := by unfold wrap64; omega
    have hpow : (2 : Nat) ^ n ≤ 2 ^ 6 := Nat.pow_le_pow_right (by omega) (by omega)
    have e4 : shl .i64 283 (n : Int) = ((0x11b <<< n : Nat) : Int) := by
      have h1 := shl_small (k := .i64) (x := 283) (y := (n : Int)) rfl (by show (n : Int) ≤ 64; omega)
      have h2 : (283 : Int) * 2 ^ n = ((283 * 2 ^ n : Nat) : Int) := by simp
      rw [← h1, Int.toNat_natCast, h2, i64_w, Nat.shiftLeft_eq]
      exact wrap_nat (Nat.lt_of_le_of_lt (Nat.mul_le_mul_left 283 hpow) (by decide))
    have hlt : 0x11b <<< n < 2 ^ 15 := by rw [Nat.shiftLeft_eq]; exact Nat.lt_of_le_of_lt (Nat.mul_le_mul_left 283 hpow) (by decide)
    rw [e1, e2, e3, e4, Gfr.rd]
    by_cases hb : p.testBit (n + 8) = true
    · rw [if_pos ((bit_of p (n + 8)).2 hb), if_pos (by omega), xor_i64 (Nat.lt_of_lt_of_le hp (by decide)) (Nat.lt_of_lt_of_le hlt (by decide)), if_pos hb]
      exact ih k _ (by omega) (Nat.xor_lt_two_pow hp hlt) (by omega)
    · rw [if_neg (fun h => hb ((bit_of p (n + 8)).1 h)), if_neg hb, Nat.xor_zero]
      exact ih k _ (by omega) hp (by omega)

/-- The reference's product is the field's. -/
theorem mul_f {k : Nat} (hk : 20 < k) (a b : B) : ciboriumref03_Mul.f k (ofB a) (ofB b) = some (ofB (mul a b)) := by
  unfold ciboriumref03_Mul.f
  have h := l0_f (a := a.toNat) (b := b.toNat) a.isLt 8 k 0 0 (by omega) (by decide) (by omega)
  have e : ciboriumref03_Mul.l0 k (ofB a) (ofB b) 0 0 = ciboriumref03_Mul.l0 k (a.toNat : Int) (b.toNat : Int) ((0 : Nat) : Int) ((0 : Nat) : Int) := rfl
  have hc := cl_lt (a := a.toNat) (b := b.toNat) a.isLt 8 0 0 (by omega) (by decide)
  have h1 := l1_f 7 (k - 8 - 1) _ (by omega) hc (by omega)
  rw [e, h, show (14 : Int) = ((7 : Nat) : Int) + 7 by omega, h1, refN_mul]

theorem inv_l0 (a : B) (n : Nat) : ∀ (k i : Nat), i + n = 256 → (∀ j : Nat, j < i → mul a (BitVec.ofNat 8 j) ≠ 1#8) → n + 20 < k → ciboriumref03_Inv.l0 k (ofB a) (i : Int) = some (ofB (inv a)) := by
  induction n with
  | zero =>
    intro k i hi hj hk
    obtain ⟨k, rfl⟩ : ∃ n, k = n + 1 := ⟨k - 1, by omega⟩
    simp only [ciboriumref03_Inv.l0]
    rw [if_neg (by omega)]
    by_cases ha : a = 0#8
    · subst ha; rfl
    · exact absurd (by rw [BitVec.ofNat_toNat, BitVec.setWidth_eq, mul_inv a ha]) (hj (inv a).toNat (by have := (inv a).isLt; omega))
  | succ n ih =>
    intro k i hi hj hk
    obtain ⟨k, rfl⟩ : ∃ n, k = n + 1 := ⟨k - 1, by omega⟩
    simp only [ciboriumref03_Inv.l0]
    have e1 : (i : Int) % 256 = ofB (BitVec.ofNat 8 i) := by unfold ofB; rw [BitVec.toNat_ofNat]; omega
    have e2 : wrap64 ((i : Int) + 1) = ((i + 1 : Nat) : Int) := by unfold wrap64; omega
    rw [if_pos (by omega), e1, mul_f (by omega), Option.bind_some, e2]
    by_cases h : mul a (BitVec.ofNat 8 i) = 1#8
    · rw [h, if_pos ofB_one, inv_unique h]
    · rw [if_neg (fun hh => h (ofB_inj (hh.trans ofB_one.symm)))]
      refine ih k (i + 1) (by omega) (fun j hj' => ?_) (by omega)
      rcases Nat.lt_or_ge j i with h2 | h2
      · exact hj j h2
      · obtain rfl : j = i := by omega
        exact h
theorem inv_f {k : Nat} (hk : 300 < k) (a : B) : ciboriumref03_Inv.f k (ofB a) = some (ofB (inv a)) :=
  inv_l0 a 256 k 0 (by omega) (fun j hj => by omega) (by omega)
theorem div_f {k : Nat} (hk : 300 < k) (a b : B) : ciboriumref03_Div.f k (ofB a) (ofB b) = some (if b = 0#8 then (0, 30) else (ofB (mul a (inv b)), 0)) := by
  unfold ciboriumref03_Div.f
  by_cases hb : b = 0#8
  · subst hb
    rw [if_pos ofB_zero, if_pos rfl]
  · rw [if_neg (fun h => hb (ofB_eq_zero.1 h)), if_neg hb, inv_f hk, Option.bind_some, mul_f (by omega), Option.bind_some]

end Go.Proofs.Ytglnepokollijaa.ARef

namespace Go.Proofs.Ytglnepokollijaa.AEv
set_option linter.unusedVariables false
set_option linter.unusedSimpArgs false
open Go.RowKit Go.Proofs.Ytglnepokollijaa.PA Go.Proofs.YtglnepokollijaaW.PrintWords Go.Proofs.YtglnepokollijaaW.PrintLast Go.Proofs.Ytglnepokollijaa.Gf Go.Proofs.Ytglnepokollijaa.Gfi Go.Proofs.Ytglnepokollijaa.Poly

theorem eval_l0 (bs : List B) (x : B) (hm : bs.length ≤ 1000000000000000) (n : Nat) : ∀ (k : Nat), n ≤ bs.length → n + 20 < k →
    field_Eval.l0 k (ints bs) (ofB x) (ofB (ev x (bs.drop n))) ((n : Int) - 1) = some (ofB (ev x bs)) := by
  induction n with
  | zero =>
    intro k hn hk
    obtain ⟨k, rfl⟩ : ∃ n, k = n + 1 := ⟨k - 1, by omega⟩
    simp only [field_Eval.l0]
    rw [if_neg (by omega), List.drop_zero]
  | succ n ih =>
    intro k hn hk
    obtain ⟨k, rfl⟩ : ∃ n, k = n + 1 := ⟨k - 1, by omega⟩
    simp only [field_Eval.l0]
    rw [if_pos (by omega), AFn.mul_f (by omega), Option.bind_some, if_pos (by omega), if_pos (by rw [ints_length]; omega)]
    have e1 : wrap64 (((n + 1 : Nat) : Int) - 1 - 1) = (n : Int) - 1 := by unfold wrap64; omega
    have e2 : rd (ints bs) (((n + 1 : Nat) : Int) - 1) = ofB (bs.getD n 0#8) := by
      unfold rd
      rw [show (((n + 1 : Nat) : Int) - 1).toNat = n by omega, ints_getD]
    rw [e1, e2, bits_xor, BitVec.xor_comm, mul_comm]
    have e3 : bs.getD n 0#8 ^^^ mul x (ev x (bs.drop (n + 1))) = ev x (bs.drop n) := by
      rw [drop_step bs n (by omega)]
      rfl
    rw [e3]
    exact ih k (by omega) (by omega)
theorem eval_f (bs : List B) (x : B) (hm : bs.length ≤ 1000000000000000) {k : Nat} (hk : bs.length + 20 < k) : field_Eval.f k (ints bs) (ofB x) = some (ofB (ev x bs)) := by
  unfold field_Eval.f
  have h := eval_l0 bs x hm bs.length k (by omega) hk
  rw [List.drop_length] at h
  have e1 : wrap64 (((ints bs).length : Int) - 1) = (bs.length : Int) - 1 := by rw [ints_length]; unfold wrap64; omega
  rw [e1]
  exact h

theorem ref_l0 (bs : List B) (x : B) (hm : bs.length ≤ 1000000000000000) (n : Nat) : ∀ (k i : Nat) (s p : B), i + n = bs.length → n + 40 < k →
    ciboriumref03_Eval.l0 k (ints bs) (ofB x) (ofB s) (ofB p) (i : Int) = some (ofB (s ^^^ mul p (ev x (bs.drop i)))) := by
  induction n with
  | zero =>
    intro k i s p hi hk
    obtain ⟨k, rfl⟩ : ∃ n, k = n + 1 := ⟨k - 1, by omega⟩
    simp only [ciboriumref03_Eval.l0]
    rw [if_neg (by rw [ints_length]; omega), show bs.drop i = [] from List.drop_eq_nil_of_le (by omega)]
    show some (ofB s) = some (ofB (s ^^^ mul p 0#8))
    rw [mul_zero, BitVec.xor_zero]
  | succ n ih =>
    intro k i s p hi hk
    obtain ⟨k, rfl⟩ : ∃ n, k = n + 1 := ⟨k - 1, by omega⟩
    simp only [ciboriumref03_Eval.l0]
    have e1 : wrap64 ((i : Int) + 1) = ((i + 1 : Nat) : Int) := by unfold wrap64; omega
    have e2 : rd (ints bs) (i : Int) = ofB (bs.getD i 0#8) := by
      unfold rd
      rw [Int.toNat_natCast, ints_getD]
    rw [if_pos (by rw [ints_length]; omega), if_pos (by omega), e2, ARef.mul_f (by omega), Option.bind_some, ARef.mul_f (by omega), Option.bind_some, bits_xor, e1, ih k (i + 1) _ _ (by omega) (by omega)]
    rw [drop_step bs i (by omega)]
    show some (ofB (s ^^^ mul (bs.getD i 0#8) p ^^^ mul (mul p x) (ev x (bs.drop (i + 1))))) = some (ofB (s ^^^ mul p (bs.getD i 0#8 ^^^ mul x (ev x (bs.drop (i + 1))))))
    rw [mul_add, mul_assoc, mul_comm _ p, BitVec.xor_assoc]
theorem ref_f (bs : List B) (x : B) (hm : bs.length ≤ 1000000000000000) {k : Nat} (hk : bs.length + 40 < k) : ciboriumref03_Eval.f k (ints bs) (ofB x) = some (ofB (ev x bs)) := by
  unfold ciboriumref03_Eval.f
  have h := ref_l0 bs x hm bs.length k 0 0#8 1#8 (by omega) hk
  rw [List.drop_zero, one_mul, BitVec.zero_xor] at h
  exact h
end Go.Proofs.Ytglnepokollijaa.AEv
