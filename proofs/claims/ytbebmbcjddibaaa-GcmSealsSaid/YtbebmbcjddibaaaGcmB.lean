/- What is said here: a long element's bits, byte by byte; its bytes times t. -/
import Derived.Test.YtbebmbcjddibaaaGcmR
namespace Go.Proofs.Ytbebmbcjddibaaa.Lng
set_option linter.unusedVariables false
set_option linter.unusedSimpArgs false
open Go.Proofs.Ytbebmbcjddibaaa.Gf Go.Proofs.Ytbebmbcjddibaaa.Gfi
theorem blkN_bit (f : Nat → B) (n : Nat) (hn : n ≤ 16) (j : Nat) (hj : j < 128) : (blkN f n).getLsbD (127 - j) = (decide (j < 8 * n) && (f (j / 8)).getLsbD (7 - j % 8)) := by
  induction n with
  | zero => simp [blkN]
  | succ n ih =>
    show (blkN f n ||| ((f n).setWidth 128 <<< (120 - 8 * n))).getLsbD (127 - j) = _
    have d1 : decide (127 - j < 128) = true := decide_eq_true (by omega)
    rw [BitVec.getLsbD_or, ih (by omega), BitVec.getLsbD_shiftLeft, BitVec.getLsbD_setWidth, d1, Bool.true_and]
    have d2 : decide (127 - j - (120 - 8 * n) < 128) = true := decide_eq_true (by omega)
    rw [d2, Bool.true_and]
    by_cases h1 : j < 8 * n
    · have d3 : decide (j < 8 * n) = true := decide_eq_true h1
      have d4 : decide (j < 8 * (n + 1)) = true := decide_eq_true (by omega)
      have z : (f n).getLsbD (127 - j - (120 - 8 * n)) = false := BitVec.getLsbD_of_ge _ _ (by omega)
      rw [d3, d4, z, Bool.true_and, Bool.and_false, Bool.or_false]
    · have d3 : decide (j < 8 * n) = false := decide_eq_false h1
      by_cases h2 : j < 8 * (n + 1)
      · have e1 : j / 8 = n := by omega
        have e2 : 127 - j - (120 - 8 * n) = 7 - j % 8 := by omega
        have d4 : decide (j < 8 * (n + 1)) = true := decide_eq_true h2
        have d5 : decide (127 - j < 120 - 8 * n) = false := decide_eq_false (by omega)
        rw [d3, d4, d5, e1, e2, Bool.false_and, Bool.false_or, Bool.not_false]
      · have d4 : decide (j < 8 * (n + 1)) = false := decide_eq_false h2
        have d5 : decide (127 - j < 120 - 8 * n) = true := decide_eq_true (by omega)
        rw [d3, d4, d5]; rfl
theorem blk_bit (f : Nat → B) (j : Nat) (hj : j < 128) : (blkW f).getLsbD (127 - j) = (f (j / 8)).getLsbD (7 - j % 8) := by
  unfold blkW
  have d : decide (j < 8 * 16) = true := decide_eq_true (by omega)
  rw [blkN_bit f 16 (Nat.le_refl _) j hj, d, Bool.true_and]
/-- Sixteen bytes times t, byte by byte. -/
def tB (y : Nat → B) : Nat → B := fun k => if k = 0 then (y 0 >>> 1) ^^^ (if (y 15).getLsbD 0 then 0xe1#8 else 0#8) else (y k >>> 1) ||| (y (k - 1) <<< 7)
theorem RR_bits : ∀ j : Fin 128, RR.getLsbD (127 - j.1) = (decide (j.1 < 8) && (0xe1#8).getLsbD (7 - j.1 % 8)) := by decide +kernel
theorem ext127 (a b : W) (h : ∀ j, j < 128 → a.getLsbD (127 - j) = b.getLsbD (127 - j)) : a = b := by
  apply BitVec.eq_of_getLsbD_eq
  intro i hi
  have := h (127 - i) (by omega)
  rwa [show 127 - (127 - i) = i by omega] at this
theorem blk_T (y : Nat → B) : blkW (tB y) = T (blkW y) := by
  apply ext127
  intro j hj
  have hl : (blkW y).getLsbD 0 = (y 15).getLsbD 0 := blk_bit y 127 (by decide)
  rw [blk_bit _ j hj]
  unfold T
  rw [BitVec.getLsbD_xor, if_bit, RR_bits ⟨j, hj⟩, BitVec.getLsbD_ushiftRight, hl]
  have hs : (blkW y).getLsbD (1 + (127 - j)) = if j = 0 then false else (y ((j - 1) / 8)).getLsbD (7 - (j - 1) % 8) := by
    by_cases e : j = 0
    · rw [if_pos e, BitVec.getLsbD_of_ge _ _ (by omega)]
    · rw [if_neg e, show 1 + (127 - j) = 127 - (j - 1) by omega, blk_bit _ _ (by omega)]
  rw [hs]
  unfold tB
  by_cases h0 : j / 8 = 0
  · have d : decide (j < 8) = true := decide_eq_true (by omega)
    have hif : ((if (y 15).getLsbD 0 then 0xe1#8 else 0#8 : B)).getLsbD (7 - j % 8) = ((y 15).getLsbD 0 && (0xe1#8 : B).getLsbD (7 - j % 8)) := by cases (y 15).getLsbD 0 <;> simp
    rw [if_pos h0, BitVec.getLsbD_xor, BitVec.getLsbD_ushiftRight, hif]
    show _ = ((if j = 0 then false else _) ^^ ((y 15).getLsbD 0 && (decide (j < 8) && _)))
    rw [d, Bool.true_and]
    congr 1
    by_cases e : j = 0
    · rw [if_pos e, BitVec.getLsbD_of_ge _ _ (by omega)]
    · rw [if_neg e, show (j - 1) / 8 = 0 by omega, show 1 + (7 - j % 8) = 7 - (j - 1) % 8 by omega]
  · have d : decide (j < 8) = false := decide_eq_false (by omega)
    rw [if_neg h0, BitVec.getLsbD_or, BitVec.getLsbD_ushiftRight, BitVec.getLsbD_shiftLeft]
    show _ = ((if j = 0 then false else _) ^^ ((y 15).getLsbD 0 && (decide (j < 8) && _)))
    rw [d, Bool.false_and, Bool.and_false, Bool.xor_false, if_neg (by omega)]
    by_cases e : j % 8 = 0
    · have e1 : (j - 1) / 8 = j / 8 - 1 := by omega
      have e2 : 7 - (j - 1) % 8 = 0 := by omega
      have e3 : 7 - j % 8 = 7 := by omega
      rw [e1, e2, e3, BitVec.getLsbD_of_ge (y (j / 8)) _ (by omega)]
      simp
    · have e1 : (j - 1) / 8 = j / 8 := by omega
      have e2 : 7 - (j - 1) % 8 = 1 + (7 - j % 8) := by omega
      have d2 : decide (7 - j % 8 < 7) = true := decide_eq_true (by omega)
      rw [e1, e2, d2]
      simp
end Go.Proofs.Ytbebmbcjddibaaa.Lng
