/- What is said here: one string is greater than another just when the other is less. It speaks of no program. -/
import Derived.WalkLawsBesides
namespace Go.Proofs.YtilhpgjohpekkaaDoor.StrLess
set_option linter.unusedVariables false
set_option linter.unusedSimpArgs false

theorem gt_law (a : List UInt8) : ∀ b : List UInt8, (!Op.bytesLess a b && !(a == b)) = Op.bytesLess b a := by
  induction a with
  | nil => intro b; cases b <;> simp [Op.bytesLess]
  | cons x a ih =>
    intro b
    cases b with
    | nil => simp [Op.bytesLess]
    | cons y b =>
      have h := ih b
      rcases (by have h1 := @UInt8.lt_iff_toNat_lt x y; have h2 := @UInt8.lt_iff_toNat_lt y x; have h3 := @UInt8.toNat_inj x y; rw [h1, h2, ← h3]; omega : x < y ∨ x = y ∨ y < x) with g | g | g
      · have g1 : ¬ y < x := fun e => UInt8.lt_irrefl _ (UInt8.lt_trans g e)
        have g2 : x ≠ y := fun e => by subst e; exact UInt8.lt_irrefl _ g
        have g3 : y ≠ x := fun e => g2 e.symm
        simp [Op.bytesLess, g, g1, g2, g3]
      · subst g
        simp only [Op.bytesLess, UInt8.lt_irrefl, decide_false, Bool.false_or, beq_self_eq_true, Bool.true_and]
        rw [← h]
        simp
      · have g1 : ¬ x < y := fun e => UInt8.lt_irrefl _ (UInt8.lt_trans g e)
        have g2 : y ≠ x := fun e => by subst e; exact UInt8.lt_irrefl _ g
        have g3 : x ≠ y := fun e => g2 e.symm
        simp [Op.bytesLess, g, g1, g2, g3]
end Go.Proofs.YtilhpgjohpekkaaDoor.StrLess
