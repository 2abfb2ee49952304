/- What is said here: numbers of 64 bits as Go reckons with them; the program's product of long elements is the field's. -/
import Derived.Test.YtbebmbcjddibaaaPGx
import Derived.Test.YtbebmbcjddibaaaGcmAlg
namespace Go.Proofs.Ytbebmbcjddibaaa.Lng
set_option linter.unusedVariables false
set_option linter.unusedSimpArgs false
open Go.RowKit Go.Proofs.YtbebmbcjddibaaaW.PrintWords Go.Proofs.YtbebmbcjddibaaaW.PrintLast Go.Proofs.YtbebmbcjddibaaaW.PrintMore Go.Proofs.Ytbebmbcjddibaaa.PG
abbrev U := BitVec 64
def o64 (a : U) : Int := (a.toNat : Int)
theorem o64_range (a : U) : 0 ≤ o64 a ∧ o64 a < 18446744073709551616 := by have := a.isLt; unfold o64; omega
theorem w64 (x : Int) : IntKind.u64.wrap x = x % 18446744073709551616 := rfl
theorem of_o64 (a : U) : BitVec.ofInt IntKind.u64.bits (o64 a) = a := by
  show BitVec.ofInt 64 (o64 a) = a
  unfold o64; simp
theorem bits64 (a b : U) : Go.bits .xor .u64 (o64 a) (o64 b) = o64 (a ^^^ b) ∧ Go.bits .or .u64 (o64 a) (o64 b) = o64 (a ||| b) ∧ Go.bits .and .u64 (o64 a) (o64 b) = o64 (a &&& b) := by
  have ha := of_o64 a
  have hb := of_o64 b
  refine ⟨?_, ?_, ?_⟩
  · unfold Go.bits
    simp only [ha, hb, w64]
    show ((a ^^^ b).toNat : Int) % 18446744073709551616 = ((a ^^^ b).toNat : Int)
    have := (a ^^^ b).isLt
    omega
  · unfold Go.bits
    simp only [ha, hb, w64]
    show ((a ||| b).toNat : Int) % 18446744073709551616 = ((a ||| b).toNat : Int)
    have := (a ||| b).isLt
    omega
  · unfold Go.bits
    simp only [ha, hb, w64]
    show ((a &&& b).toNat : Int) % 18446744073709551616 = ((a &&& b).toNat : Int)
    have := (a &&& b).isLt
    omega
theorem shl64 (a : U) (n : Nat) : IntKind.u64.wrap (o64 a * 2 ^ n) = o64 (a <<< n) := by
  rw [w64]
  unfold o64
  rw [BitVec.toNat_shiftLeft, Nat.shiftLeft_eq]
  have e : ((a.toNat : Int) * 2 ^ n) = ((a.toNat * 2 ^ n : Nat) : Int) := by simp
  rw [e]
  generalize a.toNat * 2 ^ n = m
  show (m : Int) % 18446744073709551616 = ((m % 18446744073709551616 : Nat) : Int)
  omega
theorem shr64 (a : U) (n : Nat) : (o64 a / (2 : Int) ^ n : Int) = o64 (a >>> n) := by
  unfold o64
  rw [BitVec.toNat_ushiftRight, Nat.shiftRight_eq_div_pow]
  simp
def mask (b : Bool) : U := if b then BitVec.allOnes 64 else 0#64
theorem top64 (a : U) : IntKind.u64.wrap (-(o64 a / (9223372036854775808 : Int))) = o64 (mask (a.getLsbD 63)) := by
  have h : a.getLsbD 63 = decide (9223372036854775808 ≤ a.toNat) := by
    rw [BitVec.getLsbD, Nat.testBit_eq_decide_div_mod_eq]
    have := a.isLt
    rw [decide_eq_decide]
    omega
  have := a.isLt
  rw [h, w64]
  unfold o64 mask
  by_cases e : 9223372036854775808 ≤ a.toNat
  · rw [decide_eq_true e, if_pos rfl]
    show _ = ((BitVec.allOnes 64).toNat : Int)
    rw [BitVec.toNat_allOnes]
    omega
  · rw [decide_eq_false e, if_neg (by decide)]
    show _ = (0 : Int)
    omega
theorem low64 (a : U) : IntKind.u64.wrap (-(Go.bits .and .u64 (o64 a) 1)) = o64 (mask (a.getLsbD 0)) := by
  have h1 : (1 : Int) = o64 1#64 := rfl
  rw [h1, (bits64 a 1#64).2.2]
  have h : (a &&& 1#64).toNat = if a.getLsbD 0 then 1 else 0 := by
    rw [BitVec.toNat_and, BitVec.getLsbD, Nat.testBit_eq_decide_div_mod_eq]
    show a.toNat &&& 1 = _
    rw [Nat.and_one_is_mod]
    by_cases e : a.toNat % 2 = 1
    · rw [e, decide_eq_true (by omega)]; rfl
    · rw [decide_eq_false (by omega), if_neg (by decide)]; omega
  rw [w64]
  unfold o64 mask
  rw [h]
  cases a.getLsbD 0
  · rfl
  · rfl
/-- The two halves of a long element. -/
def hi (x : W) : U := x.extractLsb' 64 64
def lo (x : W) : U := x.extractLsb' 0 64
theorem hi_bit (x : W) (j : Nat) (h : j < 64) : (hi x).getLsbD j = x.getLsbD (64 + j) := by unfold hi; rw [BitVec.getLsbD_extractLsb', decide_eq_true h, Bool.true_and]
theorem lo_bit (x : W) (j : Nat) (h : j < 64) : (lo x).getLsbD j = x.getLsbD j := by unfold lo; rw [BitVec.getLsbD_extractLsb', decide_eq_true h, Bool.true_and, Nat.zero_add]
theorem mask_bit (b : Bool) (j : Nat) (h : j < 64) : (mask b).getLsbD j = b := by
  unfold mask
  cases b
  · exact BitVec.getLsbD_zero
  · show (BitVec.allOnes 64).getLsbD j = true
    rw [BitVec.getLsbD_allOnes, decide_eq_true h]
def R64 : U := 0xe100000000000000#64
theorem RR_hi : ∀ j : Fin 64, RR.getLsbD (64 + j.1) = R64.getLsbD j.1 := by decide +kernel
theorem RR_lo : ∀ j : Fin 64, RR.getLsbD j.1 = false := by decide +kernel
theorem if_bit (b : Bool) (y : W) (j : Nat) : (if b then y else 0#128).getLsbD j = (b && y.getLsbD j) := by cases b <;> simp
theorem hi_T (y : W) : hi (T y) = (hi y >>> 1) ^^^ (R64 &&& mask ((lo y).getLsbD 0)) := by
  apply BitVec.eq_of_getLsbD_eq
  intro j hj
  rw [hi_bit _ j hj, BitVec.getLsbD_xor, BitVec.getLsbD_ushiftRight, BitVec.getLsbD_and, mask_bit _ j hj, lo_bit y 0 (by decide)]
  unfold T
  rw [BitVec.getLsbD_xor, if_bit, BitVec.getLsbD_ushiftRight, RR_hi ⟨j, hj⟩, Bool.and_comm]
  congr 1
  by_cases e : 1 + j < 64
  · rw [hi_bit y _ e]; congr 1; omega
  · rw [BitVec.getLsbD_of_ge _ _ (by omega), BitVec.getLsbD_of_ge _ _ (by omega)]
theorem lo_T (y : W) : lo (T y) = (lo y >>> 1) ||| (hi y <<< 63) := by
  apply BitVec.eq_of_getLsbD_eq
  intro j hj
  rw [lo_bit _ j hj, BitVec.getLsbD_or, BitVec.getLsbD_ushiftRight, BitVec.getLsbD_shiftLeft, decide_eq_true hj, Bool.true_and]
  unfold T
  rw [BitVec.getLsbD_xor, if_bit, BitVec.getLsbD_ushiftRight, RR_lo ⟨j, hj⟩, Bool.and_false, Bool.xor_false]
  by_cases e : j < 63
  · rw [decide_eq_true e, Bool.not_true, Bool.false_and, Bool.or_false, lo_bit y _ (by omega)]
  · obtain rfl : j = 63 := by omega
    rw [BitVec.getLsbD_of_ge (lo y) _ (by omega), Bool.false_or, decide_eq_false (by omega), Bool.not_false, Bool.true_and, hi_bit y _ (by omega)]
theorem hi_acc (z y : W) (b : Bool) : hi (z ^^^ (if b then y else 0#128)) = hi z ^^^ (hi y &&& mask b) := by
  apply BitVec.eq_of_getLsbD_eq
  intro j hj
  rw [hi_bit _ j hj, BitVec.getLsbD_xor, if_bit, BitVec.getLsbD_xor, BitVec.getLsbD_and, mask_bit _ j hj, hi_bit _ j hj, hi_bit _ j hj, Bool.and_comm]
theorem lo_acc (z y : W) (b : Bool) : lo (z ^^^ (if b then y else 0#128)) = lo z ^^^ (lo y &&& mask b) := by
  apply BitVec.eq_of_getLsbD_eq
  intro j hj
  rw [lo_bit _ j hj, BitVec.getLsbD_xor, if_bit, BitVec.getLsbD_xor, BitVec.getLsbD_and, mask_bit _ j hj, lo_bit _ j hj, lo_bit _ j hj, Bool.and_comm]
theorem scan_hi (x : W) (i : Nat) (h : i < 64) : (hi x <<< i).getLsbD 63 = x.getMsbD i := by
  rw [BitVec.getLsbD_shiftLeft, decide_eq_true (by omega), Bool.true_and, decide_eq_false (by omega), Bool.not_false, Bool.true_and, hi_bit x _ (by omega), BitVec.getMsbD, decide_eq_true (by omega), Bool.true_and]
  congr 1
  omega
theorem scan_lo (x : W) (i : Nat) (h : 64 ≤ i) (h2 : i < 128) : (lo x <<< (i - 64)).getLsbD 63 = x.getMsbD i := by
  rw [BitVec.getLsbD_shiftLeft, decide_eq_true (by omega), Bool.true_and, decide_eq_false (by omega), Bool.not_false, Bool.true_and, lo_bit x _ (by omega), BitVec.getMsbD, decide_eq_true h2, Bool.true_and]
  congr 1
  omega
theorem shl1 (a : U) : IntKind.u64.wrap (o64 a * 2) = o64 (a <<< 1) := shl64 a 1
theorem shl63 (a : U) : IntKind.u64.wrap (o64 a * 9223372036854775808) = o64 (a <<< 63) := shl64 a 63
theorem shr1 (a : U) : (o64 a / (2 : Int) : Int) = o64 (a >>> 1) := shr64 a 1
theorem times_l0 (X Y : W) : ∀ (n i k : Nat), i + n = 128 → n < k → gcm_long_times.l0 k (i : Int) (o64 (hi X <<< min i 64)) (o64 (lo X <<< (i - 64))) (o64 (hi (pw Y i))) (o64 (lo (pw Y i))) (o64 (hi (acc X Y i))) (o64 (lo (acc X Y i))) = some (o64 (hi (gm X Y)), o64 (lo (gm X Y))) := by
  intro n
  induction n with
  | zero =>
    intro i k hi_ hk
    obtain rfl : i = 128 := by omega
    obtain ⟨k, rfl⟩ : ∃ m, k = m + 1 := ⟨k - 1, by omega⟩
    simp only [gcm_long_times.l0]
    rw [if_neg (by omega)]
    rfl
  | succ n ih =>
    intro i k hi_ hk
    obtain ⟨k, rfl⟩ : ∃ m, k = m + 1 := ⟨k - 1, by omega⟩
    have hw : wrap64 ((i : Int) + 1) = ((i + 1 : Nat) : Int) := by unfold wrap64; omega
    have hR : (16212958658533785600 : Int) = o64 R64 := rfl
    have hy1 : Go.bits .xor .u64 (o64 (hi (pw Y i)) / 2) (Go.bits .and .u64 16212958658533785600 (IntKind.u64.wrap (-(Go.bits .and .u64 (o64 (lo (pw Y i))) 1)))) = o64 (hi (pw Y (i + 1))) := by
      rw [low64, hR, (bits64 _ _).2.2, shr1, (bits64 _ _).1, ← hi_T]; rfl
    have hy2 : Go.bits .or .u64 (o64 (lo (pw Y i)) / 2) (IntKind.u64.wrap (o64 (hi (pw Y i)) * 9223372036854775808)) = o64 (lo (pw Y (i + 1))) := by
      rw [shl63, shr1, (bits64 _ _).2.1, ← lo_T]; rfl
    simp only [gcm_long_times.l0]
    rw [if_pos (by omega), hw, hy1, hy2]
    have hacc : acc X Y (i + 1) = acc X Y i ^^^ (if X.getMsbD i then pw Y i else 0#128) := rfl
    have ihi := ih (i + 1) k (by omega) (by omega)
    rw [hacc, hi_acc, lo_acc] at ihi
    by_cases h64 : i < 64
    · have e1 : min i 64 = i := by omega
      have e2 : min (i + 1) 64 = i + 1 := by omega
      have e3 : i - 64 = 0 := by omega
      have e4 : i + 1 - 64 = 0 := by omega
      rw [e2, e4] at ihi
      rw [if_neg (by omega), e1, e3, top64, scan_hi X i h64, (bits64 _ _).2.2, (bits64 _ _).2.2, (bits64 _ _).1, (bits64 _ _).1, shl1, ← BitVec.shiftLeft_add]
      exact ihi
    · have e1 : min i 64 = 64 := by omega
      have e2 : min (i + 1) 64 = 64 := by omega
      have e3 : i + 1 - 64 = i - 64 + 1 := by omega
      rw [e2, e3] at ihi
      rw [if_pos (by omega), e1, top64, scan_lo X i (by omega) (by omega), (bits64 _ _).2.2, (bits64 _ _).2.2, (bits64 _ _).1, (bits64 _ _).1, shl1, ← BitVec.shiftLeft_add]
      exact ihi
/-- The program's product. -/
theorem times_f (X Y : W) : gcm_long_times.f 200 (o64 (hi X)) (o64 (lo X)) (o64 (hi Y)) (o64 (lo Y)) = some (o64 (hi (gm X Y)), o64 (lo (gm X Y))) := by
  have h := times_l0 X Y 128 0 200 (by omega) (by omega)
  unfold gcm_long_times.f
  have e1 : hi X <<< min 0 64 = hi X := by rw [show min 0 64 = 0 by decide, BitVec.shiftLeft_zero]
  have e2 : lo X <<< (0 - 64) = lo X := by rw [show 0 - 64 = 0 by decide, BitVec.shiftLeft_zero]
  have e3 : pw Y 0 = Y := rfl
  have e4 : o64 (hi (acc X Y 0)) = 0 := (by decide : o64 (hi 0#128) = 0)
  have e5 : o64 (lo (acc X Y 0)) = 0 := (by decide : o64 (lo 0#128) = 0)
  rw [e1, e2, e3, e4, e5] at h
  exact h
end Go.Proofs.Ytbebmbcjddibaaa.Lng
