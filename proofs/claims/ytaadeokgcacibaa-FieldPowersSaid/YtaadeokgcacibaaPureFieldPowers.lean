/- It is proved here that FieldPowers answers true, of every byte and every two ints: as whole numbers alone. No condition. -/
import Derived.Test.YtaadeokgcacibaaF3Fn
namespace Go.Proofs.Ytaadeokgcacibaa.Pure
set_option linter.unusedVariables false
set_option linter.unusedSimpArgs false
open Go.RowKit Go.Proofs.Ytaadeokgcacibaa.PF3 Go.Proofs.YtaadeokgcacibaaW.PrintWords Go.Proofs.YtaadeokgcacibaaW.PrintLast Go.Proofs.Ytaadeokgcacibaa.Gf Go.Proofs.Ytaadeokgcacibaa.Gfi Go.Proofs.Ytaadeokgcacibaa.F3Fn

theorem FieldPowers_else {a : B} (ha : a ≠ 0#8) (m n : Int) (hm1 : -1099511627776 < m) (hm2 : m < 1099511627776) (hn1 : -1099511627776 < n) (hn2 : n < 1099511627776) (k : Nat) (hk : 8 < k) :
    ciboriumlaw03_FieldPowers.j0 (k + 1) (ofB a) m n false = some true := by
  simp only [ciboriumlaw03_FieldPowers.j0]
  rw [if_neg (by simp)]
  have b1 : -255 < m.tmod 255 ∧ m.tmod 255 < 255 := by
    have := Int.tmod_lt_of_pos m (b := 255) (by omega)
    have h2 := Int.tmod_lt_of_pos (-m) (b := 255) (by omega)
    rw [Int.neg_tmod] at h2
    omega
  have b2 : -255 < n.tmod 255 ∧ n.tmod 255 < 255 := by
    have := Int.tmod_lt_of_pos n (b := 255) (by omega)
    have h2 := Int.tmod_lt_of_pos (-n) (b := 255) (by omega)
    rw [Int.neg_tmod] at h2
    omega
  have b3 : -65025 ≤ m.tmod 255 * n.tmod 255 ∧ m.tmod 255 * n.tmod 255 ≤ 65025 := by
    have h : (m.tmod 255 * n.tmod 255).natAbs ≤ 255 * 255 := by
      rw [Int.natAbs_mul]
      exact Nat.mul_le_mul (by omega) (by omega)
    omega
  have ew : wrap64 (m.tmod 255 * n.tmod 255) = m.tmod 255 * n.tmod 255 := by unfold wrap64; omega
  rw [ew, pow_f a (by omega) (by omega), Option.bind_some, pow_f _ (by omega) (by omega), Option.bind_some, pow_f a (by omega) (by omega), Option.bind_some]
  have e1 : powB (powB a m) (n.tmod 255) = powB a (m.tmod 255 * n.tmod 255) := by
    rw [powB_pow ha]
    apply powB_mod ha
    rw [Int.mul_emod, tmod_emod, ← Int.mul_emod, Int.mul_emod (m.tmod 255), tmod_emod, tmod_emod, ← Int.mul_emod]
  rw [e1, if_pos rfl, pow_f a (by omega) (by omega), Option.bind_some, inv_f, Option.bind_some, powB_inv a (-1) (by omega), if_pos rfl, works_f hk]
  rfl

theorem FieldPowers : ciboriumlaw03_FieldPowers.Pure := by
  intro x m0 n0 hx hm hn
  obtain ⟨a, rfl⟩ := B_of_wf hx
  have hm := i64_of_wf hm
  have hn := i64_of_wf hn
  have bb : ∀ z : Int, -1099511627776 < z.tmod 1099511627776 ∧ z.tmod 1099511627776 < 1099511627776 := by
    intro z
    have := Int.tmod_lt_of_pos z (b := 1099511627776) (by omega)
    have h2 := Int.tmod_lt_of_pos (-z) (b := 1099511627776) (by omega)
    rw [Int.neg_tmod] at h2
    omega
  have bm := bb m0
  have bn := bb n0
  refine ⟨20, ?_⟩
  unfold ciboriumlaw03_FieldPowers.f
  generalize m0.tmod 1099511627776 = m at bm ⊢
  generalize n0.tmod 1099511627776 = n at bn ⊢
  rw [pow_f a (by omega) (by omega), Option.bind_some, powB_zero, if_pos (by rfl)]
  by_cases ha : a = 0#8
  · subst ha
    rw [if_pos ofB_zero]
    have e0 : field_Pow.f 0 n = some (ofB (powB 0#8 n)) := pow_f 0#8 (by omega) (by omega)
    rw [e0, Option.bind_some]
    by_cases h : n = 0
    · subst h
      rw [powB_zero, if_pos (by decide), if_pos (by decide), works_f (by omega)]
      rfl
    · have : powB 0#8 n = 0#8 := by simp [powB, h]
      rw [this, if_pos (by simp [ofB_zero, h]), if_pos (by decide), works_f (by omega)]
      rfl
  · rw [if_neg (fun h => ha (ofB_eq_zero.1 h))]
    have ew : wrap64 (m + n) = m + n := by unfold wrap64; omega
    rw [ew, pow_f a (by omega) (by omega), Option.bind_some, pow_f a (by omega) (by omega), Option.bind_some, pow_f a (by omega) (by omega), Option.bind_some, mul_f (by omega), Option.bind_some]
    rw [powB_add ha, if_pos rfl, pow_f a (by omega) (by omega), Option.bind_some]
    have e255 : powB a 255 = 1#8 := by rw [powB_mod ha 255 0 (by omega), powB_zero]
    rw [e255, if_pos (by rfl), pow_f a (by omega) (by omega), Option.bind_some, powB_one, if_pos rfl]
    rw [Option.bind_some, show (ofB 1#8 != 1) = false by decide]
    exact FieldPowers_else ha m n bm.1 bm.2 bn.1 bn.2 19 (by omega)
end Go.Proofs.Ytaadeokgcacibaa.Pure
