/- It is proved here that FieldLaws answers true, of every three bytes: as whole numbers alone. No condition. -/
import Derived.Test.YtaadeokgcacibaaF3Fn
namespace Go.Proofs.Ytaadeokgcacibaa.Pure
set_option linter.unusedVariables false
set_option linter.unusedSimpArgs false
open Go.RowKit Go.Proofs.Ytaadeokgcacibaa.PF3 Go.Proofs.YtaadeokgcacibaaW.PrintWords Go.Proofs.YtaadeokgcacibaaW.PrintLast Go.Proofs.Ytaadeokgcacibaa.Gf Go.Proofs.Ytaadeokgcacibaa.Gfi Go.Proofs.Ytaadeokgcacibaa.F3Fn

theorem FieldLaws_j2 (a b : B) (k : Nat) (hk : 8 < k) : ciboriumlaw03_FieldLaws.j2 (k + 1) (ofB a) (ofB b) false = some true := by
  simp only [ciboriumlaw03_FieldLaws.j2]
  rw [if_neg (by simp), div_f hk, Option.bind_some]
  by_cases hb : b = 0#8
  · subst hb
    rw [if_pos ofB_zero, if_pos rfl, if_pos rfl, if_pos rfl, works_f hk]
    rfl
  · rw [if_neg (fun h => hb (ofB_eq_zero.1 h)), if_neg hb, mul_f hk, Option.bind_some, div_f hk, Option.bind_some, if_neg hb, if_pos rfl, if_pos rfl, mul_f hk, Option.bind_some]
    have e1 : mul (mul a (inv b)) b = a := by rw [mul_assoc, mul_comm (inv b) b, mul_inv b hb, mul_one]
    have e2 : mul (mul a b) (inv b) = a := by rw [mul_assoc, mul_inv b hb, mul_one]
    rw [e1, if_pos rfl]
    simp only [e2]
    rw [if_pos trivial, works_f hk]
    rfl
theorem FieldLaws_j1 (a b c : B) (k : Nat) (hk : 8 < k) : ciboriumlaw03_FieldLaws.j1 (k + 2) (ofB a) (ofB b) (ofB c) false = some true := by
  simp only [ciboriumlaw03_FieldLaws.j1]
  rw [if_neg (by simp), add_f, Option.bind_some, mul_f (by omega), Option.bind_some, mul_f (by omega), Option.bind_some, mul_f (by omega), Option.bind_some, add_f, Option.bind_some, mul_add, if_pos rfl]
  by_cases ha : a = 0#8
  · subst ha
    rw [if_pos ofB_zero, inv_f, Option.bind_some, inv_f, Option.bind_some, inv_inv]
    rw [show (ofB 0#8 != ofB 0#8) = false by simp]
    exact FieldLaws_j2 _ _ k hk
  · rw [if_neg (fun h => ha (ofB_eq_zero.1 h)), inv_f, Option.bind_some, mul_f (by omega), Option.bind_some, mul_inv a ha, if_pos ofB_one, Option.bind_some, inv_f, Option.bind_some, inv_inv]
    rw [show (ofB a != ofB a) = false by simp]
    exact FieldLaws_j2 _ _ k hk
theorem FieldLaws_j0 (a b c : B) (k : Nat) (hk : 8 < k) : ciboriumlaw03_FieldLaws.j0 (k + 3) (ofB a) (ofB b) (ofB c) false = some true := by
  simp only [ciboriumlaw03_FieldLaws.j0]
  have e1 : field_Mul.f (k + 2) (ofB a) 1 = some (ofB (mul a 1#8)) := mul_f (by omega) a 1#8
  have e0 : field_Mul.f (k + 2) (ofB a) 0 = some (ofB (mul a 0#8)) := mul_f (by omega) a 0#8
  rw [if_neg (by simp), mul_f (by omega), Option.bind_some, mul_f (by omega), Option.bind_some, mul_comm b a, if_pos rfl, Option.bind_some, mul_f (by omega), Option.bind_some, mul_f (by omega), Option.bind_some, mul_f (by omega), Option.bind_some, mul_assoc, if_pos rfl,
    e1, Option.bind_some, mul_one, if_pos rfl, e0, Option.bind_some, mul_zero]
  exact FieldLaws_j1 a b c k hk
theorem FieldLaws : ciboriumlaw03_FieldLaws.Pure := by
  intro x y z hx hy hz
  obtain ⟨a, rfl⟩ := B_of_wf hx
  obtain ⟨b, rfl⟩ := B_of_wf hy
  obtain ⟨c, rfl⟩ := B_of_wf hz
  refine ⟨12, ?_⟩
  unfold ciboriumlaw03_FieldLaws.f
  have e0 : field_Add.f (ofB a) 0 = some (ofB (a ^^^ 0#8)) := add_f a 0#8
  simp only [add_f, Option.bind_some]
  rw [BitVec.xor_comm b a, if_pos rfl, BitVec.xor_assoc, if_pos rfl, BitVec.xor_self, if_pos ofB_zero, e0, Option.bind_some, BitVec.xor_zero]
  rw [show (ofB a != ofB a) = false by simp]
  exact FieldLaws_j0 a b c 9 (by omega)
end Go.Proofs.Ytaadeokgcacibaa.Pure
