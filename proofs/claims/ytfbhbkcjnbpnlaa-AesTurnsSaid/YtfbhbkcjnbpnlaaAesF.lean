/- What is said here: what the small functions of AES, and of its document, come to. -/
import Derived.Test.YtfbhbkcjnbpnlaaPoly
import Derived.Test.YtfbhbkcjnbpnlaaPAx
namespace Go.Proofs.Ytfbhbkcjnbpnlaa.AesF
set_option linter.unusedVariables false
set_option linter.unusedSimpArgs false
open Go.RowKit Go.Proofs.Ytfbhbkcjnbpnlaa.PA Go.Proofs.YtfbhbkcjnbpnlaaW.PrintWords Go.Proofs.YtfbhbkcjnbpnlaaW.PrintLast Go.Proofs.YtfbhbkcjnbpnlaaW.PrintMore Go.Proofs.Ytfbhbkcjnbpnlaa.Gf Go.Proofs.Ytfbhbkcjnbpnlaa.Gfi Go.Proofs.Ytfbhbkcjnbpnlaa.Gfr
theorem pow_fp (a : B) {n : Int} (h0 : -9223372036854775808 ≤ n) (h1 : n ≤ 9223372036854775807) : field_Pow.f (ofB a) n = some (ofB (powB a n)) := by
  have := ofB_range a
  unfold field_Pow.f
  rw [if_pos ⟨this.1, this.2, h0, h1⟩, tab_pow]
theorem inv_fp (a : B) : field_Inv.f (ofB a) = some (ofB (inv a)) := by
  unfold field_Inv.f
  rw [pow_fp a (by omega) (by omega), powB_inv a 254 (by omega)]
  rfl
/-- A byte as sub sees it: behind its inverse. -/
def rot (y : B) (n : Nat) : B := (y <<< n) ||| (y >>> (8 - n))
def sbox (y : B) : B := ((((y ^^^ rot y 1) ^^^ rot y 2) ^^^ rot y 3) ^^^ rot y 4) ^^^ 0x63#8
def sb (x : B) : B := sbox (inv x)
theorem turn_f1 (y : B) : aes_turn.f (ofB y) 1 = some (ofB (rot y 1)) := all_bits (P := fun y => aes_turn.f (ofB y) 1 = some (ofB (rot y 1))) (by decide +kernel) y
theorem turn_f2 (y : B) : aes_turn.f (ofB y) 2 = some (ofB (rot y 2)) := all_bits (P := fun y => aes_turn.f (ofB y) 2 = some (ofB (rot y 2))) (by decide +kernel) y
theorem turn_f3 (y : B) : aes_turn.f (ofB y) 3 = some (ofB (rot y 3)) := all_bits (P := fun y => aes_turn.f (ofB y) 3 = some (ofB (rot y 3))) (by decide +kernel) y
theorem turn_f4 (y : B) : aes_turn.f (ofB y) 4 = some (ofB (rot y 4)) := all_bits (P := fun y => aes_turn.f (ofB y) 4 = some (ofB (rot y 4))) (by decide +kernel) y
theorem twice_f (a : B) : field_Mul.f 20 (ofB a) 2 = some (ofB (xt a)) := all_bits (P := fun a => field_Mul.f 20 (ofB a) 2 = some (ofB (xt a))) (by decide +kernel) a
def fac : Nat → B
  | 0 => 1#8
  | n + 1 => xt (fac n)
theorem fac_f (n : Nat) (h : n < 7) : ciboriumref03_Pow.f 400 2 (n : Int) = some (ofB (fac n)) := by
  have : ∀ i : Fin 7, ciboriumref03_Pow.f 400 2 (i.1 : Int) = some (ofB (fac i.1)) := by decide +kernel
  exact this ⟨n, h⟩
theorem wrap_nat {n : Nat} (h : n < 2 ^ 62) : wrap64 (n : Int) = (n : Int) := by
  have h2 : n < 4611686018427387904 := h
  unfold wrap64
  omega
theorem xor_i64 {p q : Nat} (hp : p < 2 ^ 62) (hq : q < 2 ^ 62) : Go.bits .xor .i64 (p : Int) (q : Int) = ((p ^^^ q : Nat) : Int) := by
  have hx := Nat.xor_lt_two_pow hp hq
  have h : ∀ n : Nat, n < 2 ^ 62 → (BitVec.ofInt 64 (n : Int)).toNat = n := by
    intro n hn
    rw [BitVec.ofInt_natCast, BitVec.toNat_ofNat]
    omega
  unfold Go.bits
  show IntKind.i64.wrap (((BitVec.ofInt 64 (p : Int)) ^^^ (BitVec.ofInt 64 (q : Int))).toNat : Int) = _
  rw [BitVec.toNat_xor, h p hp, h q hq, i64_w]
  exact wrap_nat hx
theorem bit_of (b i : Nat) : (((b : Int) / 2 ^ i).tmod 2 = 1) ↔ b.testBit i = true := by
  rw [Nat.testBit_eq_decide_div_mod_eq, decide_eq_true_iff]
  have e : ((b : Int) / 2 ^ i) = ((b / 2 ^ i : Nat) : Int) := by simp
  rw [e]
  generalize b / 2 ^ i = c
  rw [Int.tmod_eq_emod_of_nonneg (by omega)]
  omega

theorem l0_f {a b : Nat} (ha : a < 256) (n : Nat) : ∀ (k i p : Nat), i + n = 8 → p < 2 ^ 15 → n < k →
    ciboriumref03_Mul.l0 k (a : Int) (b : Int) (p : Int) (i : Int) = ciboriumref03_Mul.l1 (k - n - 1) ((cl a b n i p : Nat) : Int) 14 := by
  induction n with
  | zero =>
    intro k i p hi hp hk
    obtain ⟨k, rfl⟩ : ∃ n, k = n + 1 := ⟨k - 1, by omega⟩
    simp only [ciboriumref03_Mul.l0, cl]
    rw [if_neg (by omega)]
    rfl
  | succ n ih =>
    intro k i p hi hp hk
    obtain ⟨k, rfl⟩ : ∃ n, k = n + 1 := ⟨k - 1, by omega⟩
    simp only [ciboriumref03_Mul.l0]
    rw [if_pos (by omega), if_pos (by omega)]
    have e1 : shr .u8 (b : Int) (i : Int) = (b : Int) / 2 ^ i := by
      have := shr_small (k := .u8) (x := (b : Int)) (y := (i : Int)) rfl (by show (i : Int) ≤ 8; omega)
      rw [← this, Int.toNat_natCast]
    have e2 : wrap64 ((i : Int) + 1) = ((i + 1 : Nat) : Int) := by unfold wrap64; omega
    have hpow : (2 : Nat) ^ i ≤ 2 ^ 7 := Nat.pow_le_pow_right (by omega) (by omega)
    have hsh : a * 2 ^ i ≤ 255 * 2 ^ 7 := Nat.mul_le_mul (by omega) hpow
    have e3 : shl .i64 (wrap64 (a : Int)) (i : Int) = ((a <<< i : Nat) : Int) := by
      have h1 := shl_small (k := .i64) (x := wrap64 (a : Int)) (y := (i : Int)) rfl (by show (i : Int) ≤ 64; omega)
      have h2 : (a : Int) * 2 ^ i = ((a * 2 ^ i : Nat) : Int) := by simp
      rw [← h1, Int.toNat_natCast, wrap_nat (Nat.lt_of_lt_of_le ha (by decide)), h2, i64_w, Nat.shiftLeft_eq]
      exact wrap_nat (Nat.lt_of_le_of_lt hsh (by decide))
    have hlt : a <<< i < 2 ^ 15 := by rw [Nat.shiftLeft_eq]; exact Nat.lt_of_le_of_lt hsh (by decide)
    rw [e1, e2, e3, cl, show k + 1 - (n + 1) - 1 = k - n - 1 by omega]
    by_cases hb : b.testBit i = true
    · rw [if_pos ((bit_of b i).2 hb), xor_i64 (Nat.lt_of_lt_of_le hp (by decide)) (Nat.lt_of_lt_of_le hlt (by decide)), if_pos hb]
      exact ih k (i + 1) _ (by omega) (Nat.xor_lt_two_pow hp hlt) (by omega)
    · rw [if_neg (fun h => hb ((bit_of b i).1 h)), if_neg hb, Nat.xor_zero]
      exact ih k (i + 1) _ (by omega) hp (by omega)

theorem l1_f (n : Nat) : ∀ (k p : Nat), n ≤ 7 → p < 2 ^ 15 → n < k → ciboriumref03_Mul.l1 k (p : Int) ((n : Int) + 7) = some (((Gfr.rd n p : Nat) : Int) % 256) := by
  induction n with
  | zero =>
    intro k p hn hp hk
    obtain ⟨k, rfl⟩ : ∃ n, k = n + 1 := ⟨k - 1, by omega⟩
    simp only [ciboriumref03_Mul.l1, Gfr.rd]
    rw [if_neg (by omega)]
  | succ n ih =>
    intro k p hn hp hk
    obtain ⟨k, rfl⟩ : ∃ n, k = n + 1 := ⟨k - 1, by omega⟩
    simp only [ciboriumref03_Mul.l1]
    have e0 : ((n + 1 : Nat) : Int) + 7 = ((n + 8 : Nat) : Int) := by omega
    rw [e0, if_pos (by omega), if_pos (by omega)]
    have e1 : shr .i64 (p : Int) ((n + 8 : Nat) : Int) = (p : Int) / 2 ^ (n + 8) := by
      have := shr_small (k := .i64) (x := (p : Int)) (y := ((n + 8 : Nat) : Int)) rfl (by show ((n + 8 : Nat) : Int) ≤ 64; omega)
      rw [← this, Int.toNat_natCast]
    have e2 : wrap64 (((n + 8 : Nat) : Int) - 1) = (n : Int) + 7 := by unfold wrap64; omega
    have e3 : wrap64 (((n + 8 : Nat) : Int) - 8) = (n : Int) := by unfold wrap64; omega
    have hpow : (2 : Nat) ^ n ≤ 2 ^ 6 := Nat.pow_le_pow_right (by omega) (by omega)
    have e4 : shl .i64 283 (n : Int) = ((0x11b <<< n : Nat) : Int) := by
      have h1 := shl_small (k := .i64) (x := 283) (y := (n : Int)) rfl (by show (n : Int) ≤ 64; omega)
      have h2 : (283 : Int) * 2 ^ n = ((283 * 2 ^ n : Nat) : Int) := by simp
      rw [← h1, Int.toNat_natCast, h2, i64_w, Nat.shiftLeft_eq]
      exact wrap_nat (Nat.lt_of_le_of_lt (Nat.mul_le_mul_left 283 hpow) (by decide))
    have hlt : 0x11b <<< n < 2 ^ 15 := by rw [Nat.shiftLeft_eq]; exact Nat.lt_of_le_of_lt (Nat.mul_le_mul_left 283 hpow) (by decide)
    rw [e1, e2, e3, e4, Gfr.rd]
    by_cases hb : p.testBit (n + 8) = true
    · rw [if_pos ((bit_of p (n + 8)).2 hb), if_pos (by omega), xor_i64 (Nat.lt_of_lt_of_le hp (by decide)) (Nat.lt_of_lt_of_le hlt (by decide)), if_pos hb]
      exact ih k _ (by omega) (Nat.xor_lt_two_pow hp hlt) (by omega)
    · rw [if_neg (fun h => hb ((bit_of p (n + 8)).1 h)), if_neg hb, Nat.xor_zero]
      exact ih k _ (by omega) hp (by omega)

/-- The reference's product is the field's. -/
theorem mul_f {k : Nat} (hk : 20 < k) (a b : B) : ciboriumref03_Mul.f k (ofB a) (ofB b) = some (ofB (mul a b)) := by
  unfold ciboriumref03_Mul.f
  have h := l0_f (a := a.toNat) (b := b.toNat) a.isLt 8 k 0 0 (by omega) (by decide) (by omega)
  have e : ciboriumref03_Mul.l0 k (ofB a) (ofB b) 0 0 = ciboriumref03_Mul.l0 k (a.toNat : Int) (b.toNat : Int) ((0 : Nat) : Int) ((0 : Nat) : Int) := rfl
  have hc := cl_lt (a := a.toNat) (b := b.toNat) a.isLt 8 0 0 (by omega) (by decide)
  have h1 := l1_f 7 (k - 8 - 1) _ (by omega) hc (by omega)
  rw [e, h, show (14 : Int) = ((7 : Nat) : Int) + 7 by omega, h1, refN_mul]

theorem inv_l0 (a : B) (n : Nat) : ∀ (k i : Nat), i + n = 256 → (∀ j : Nat, j < i → mul a (BitVec.ofNat 8 j) ≠ 1#8) → n + 20 < k → ciboriumref03_Inv.l0 k (ofB a) (i : Int) = some (ofB (inv a)) := by
  induction n with
  | zero =>
    intro k i hi hj hk
    obtain ⟨k, rfl⟩ : ∃ n, k = n + 1 := ⟨k - 1, by omega⟩
    simp only [ciboriumref03_Inv.l0]
    rw [if_neg (by omega)]
    by_cases ha : a = 0#8
    · subst ha; rfl
    · exact absurd (by rw [BitVec.ofNat_toNat, BitVec.setWidth_eq, mul_inv a ha]) (hj (inv a).toNat (by have := (inv a).isLt; omega))
  | succ n ih =>
    intro k i hi hj hk
    obtain ⟨k, rfl⟩ : ∃ n, k = n + 1 := ⟨k - 1, by omega⟩
    simp only [ciboriumref03_Inv.l0]
    have e1 : (i : Int) % 256 = ofB (BitVec.ofNat 8 i) := by unfold ofB; rw [BitVec.toNat_ofNat]; omega
    have e2 : wrap64 ((i : Int) + 1) = ((i + 1 : Nat) : Int) := by unfold wrap64; omega
    rw [if_pos (by omega), e1, mul_f (by omega), Option.bind_some, e2]
    by_cases h : mul a (BitVec.ofNat 8 i) = 1#8
    · rw [h, if_pos ofB_one, inv_unique h]
    · rw [if_neg (fun hh => h (ofB_inj (hh.trans ofB_one.symm)))]
      refine ih k (i + 1) (by omega) (fun j hj' => ?_) (by omega)
      rcases Nat.lt_or_ge j i with h2 | h2
      · exact hj j h2
      · obtain rfl : j = i := by omega
        exact h
theorem inv_f {k : Nat} (hk : 300 < k) (a : B) : ciboriumref03_Inv.f k (ofB a) = some (ofB (inv a)) :=
  inv_l0 a 256 k 0 (by omega) (fun j hj => by omega) (by omega)
theorem sub_l0 (y : B) : ciboriumref05_Sub.l0 400 (ofB y) 0 0 = some (ofB (sbox y)) := all_bits (P := fun y => ciboriumref05_Sub.l0 400 (ofB y) 0 0 = some (ofB (sbox y))) (by decide +kernel) y
theorem sub_f (x : B) : ciboriumref05_Sub.f 400 (ofB x) = some (ofB (sb x)) := by
  unfold ciboriumref05_Sub.f
  rw [inv_f (by omega), Option.bind_some, sub_l0]
  rfl
theorem inv_calls (x : B) (w : World) : Calls Try.prog 28 #[.int .u8 (ofB x)] w fun e w' => e = .returned (.int .u8 (ofB (inv x))) ∧ Below w.heap.size w w' :=
  PA.field_Inv.calls _ _ w (inv_fp x)
theorem turn_calls1 (y : B) (w : World) : Calls Try.prog 29 #[.int .u8 (ofB y), .int .i64 1] w fun e w' => e = .returned (.int .u8 (ofB (rot y 1))) ∧ Drawn0 w w' := PA.aes_turn.calls _ _ _ w (turn_f1 y)
theorem turn_calls2 (y : B) (w : World) : Calls Try.prog 29 #[.int .u8 (ofB y), .int .i64 2] w fun e w' => e = .returned (.int .u8 (ofB (rot y 2))) ∧ Drawn0 w w' := PA.aes_turn.calls _ _ _ w (turn_f2 y)
theorem turn_calls3 (y : B) (w : World) : Calls Try.prog 29 #[.int .u8 (ofB y), .int .i64 3] w fun e w' => e = .returned (.int .u8 (ofB (rot y 3))) ∧ Drawn0 w w' := PA.aes_turn.calls _ _ _ w (turn_f3 y)
theorem turn_calls4 (y : B) (w : World) : Calls Try.prog 29 #[.int .u8 (ofB y), .int .i64 4] w fun e w' => e = .returned (.int .u8 (ofB (rot y 4))) ∧ Drawn0 w w' := PA.aes_turn.calls _ _ _ w (turn_f4 y)
theorem twice_calls (a : B) (w : World) : Calls Try.prog 16 #[.int .u8 (ofB a), .int .u8 2] w fun e w' => e = .returned (.int .u8 (ofB (xt a))) ∧ Drawn0 w w' := PA.field_Mul.calls 20 _ _ _ w (twice_f a)
theorem fac_calls (n : Nat) (h : n < 7) (w : World) : Calls Try.prog 18 #[.int .u8 2, .int .i64 (n : Int)] w fun e w' => e = .returned (.int .u8 (ofB (fac n))) ∧ Drawn0 w w' := PA.ciboriumref03_Pow.calls 400 _ _ _ w (fac_f n h)
theorem times_calls (a b : B) (w : World) : Calls Try.prog 31 #[.int .u8 (ofB a), .int .u8 (ofB b)] w fun e w' => e = .returned (.int .u8 (ofB (mul a b))) ∧ Drawn0 w w' := PA.ciboriumref03_Mul.calls 400 _ _ _ w (mul_f (by omega) a b)
theorem sub_calls (x : B) (w : World) : Calls Try.prog 17 #[.int .u8 (ofB x)] w fun e w' => e = .returned (.int .u8 (ofB (sb x))) ∧ Drawn0 w w' := PA.ciboriumref05_Sub.calls 400 _ _ w (sub_f x)
end Go.Proofs.Ytfbhbkcjnbpnlaa.AesF
