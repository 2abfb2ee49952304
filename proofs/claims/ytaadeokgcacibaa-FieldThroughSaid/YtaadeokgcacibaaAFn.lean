/- What is said here: what the printed functions of package field, and of its reference, come to. -/
import Derived.Test.YtaadeokgcacibaaGfi
import Derived.Test.YtaadeokgcacibaaPAx
namespace Go.Proofs.Ytaadeokgcacibaa.AFn
set_option linter.unusedVariables false
set_option linter.unusedSimpArgs false
open Go.RowKit Go.Proofs.Ytaadeokgcacibaa.PA Go.Proofs.YtaadeokgcacibaaW.PrintWords Go.Proofs.YtaadeokgcacibaaW.PrintLast Go.Proofs.Ytaadeokgcacibaa.Gf Go.Proofs.Ytaadeokgcacibaa.Gfi

theorem mul_l0 (m : Nat) : ∀ (k : Nat) (a b s : B), b.toNat < 2 ^ m → m < k → field_Mul.l0 k (ofB a) (ofB b) (ofB s) = some (ofB (s ^^^ mulN m a b)) := by
  induction m with
  | zero =>
    intro k a b s hb hk
    obtain ⟨k, rfl⟩ : ∃ n, k = n + 1 := ⟨k - 1, by omega⟩
    have : b = 0#8 := by apply BitVec.eq_of_toNat_eq; simpa using hb
    subst this
    simp only [field_Mul.l0]
    rw [if_pos ofB_zero]
    simp [mulN]
  | succ m ih =>
    intro k a b s hb hk
    obtain ⟨k, rfl⟩ : ∃ n, k = n + 1 := ⟨k - 1, by omega⟩
    simp only [field_Mul.l0]
    by_cases h0 : b = 0#8
    · subst h0
      rw [if_pos ofB_zero]
      have hz : ∀ (m : Nat) (a : B), mulN m a 0#8 = 0#8 := by
        intro m
        induction m with
        | zero => intro a; rfl
        | succ m ih => intro a; rw [mulN, BitVec.zero_ushiftRight, ih]; simp
      rw [hz]
      simp
    · rw [if_neg (fun h => h0 (ofB_eq_zero.1 h)), dbl_ofB, half_ofB, times_bit, bits_xor]
      rw [ih k (xt a) (b >>> 1) _ (by rw [BitVec.toNat_ushiftRight, Nat.shiftRight_eq_div_pow]; omega) (by omega)]
      rw [mulN, BitVec.xor_assoc]

theorem mul_f {k : Nat} (hk : 8 < k) (a b : B) : field_Mul.f k (ofB a) (ofB b) = some (ofB (mul a b)) := by
  unfold field_Mul.f
  have := mul_l0 8 k a b 0#8 b.isLt hk
  rw [ofB_zero] at this
  rw [this]
  simp [mul]
theorem pow_f (a : B) {n : Int} (h0 : -9223372036854775808 ≤ n) (h1 : n ≤ 9223372036854775807) : field_Pow.f (ofB a) n = some (ofB (powB a n)) := by
  have := ofB_range a
  unfold field_Pow.f
  rw [if_pos ⟨this.1, this.2, h0, h1⟩, tab_pow]
theorem inv_f (a : B) : field_Inv.f (ofB a) = some (ofB (inv a)) := by
  unfold field_Inv.f
  rw [pow_f a (by omega) (by omega), powB_inv a 254 (by omega)]
  rfl
theorem add_f (a b : B) : field_Add.f (ofB a) (ofB b) = some (ofB (a ^^^ b)) := by
  unfold field_Add.f
  rw [bits_xor]
theorem div_f {k : Nat} (hk : 8 < k) (a b : B) : field_Div.f k (ofB a) (ofB b) = some (if b = 0#8 then (0, 30) else (ofB (mul a (inv b)), 0)) := by
  unfold field_Div.f
  by_cases hb : b = 0#8
  · subst hb
    rw [if_pos ofB_zero, if_pos rfl]
  · rw [if_neg (fun h => hb (ofB_eq_zero.1 h)), if_neg hb, inv_f, Option.bind_some, mul_f hk, Option.bind_some]
theorem works_f {k : Nat} (hk : 8 < k) : ciboriumlaw03_works.f k = some true := by
  unfold ciboriumlaw03_works.f
  have e1 : (87 : Int) = ofB 0x57#8 := rfl
  have e2 : (131 : Int) = ofB 0x83#8 := rfl
  have e3 : (83 : Int) = ofB 0x53#8 := rfl
  rw [e1, e2, e3, mul_f hk, Option.bind_some, if_pos (by decide +kernel), inv_f, Option.bind_some, if_pos (by decide +kernel), add_f, Option.bind_some]
  decide +kernel
end Go.Proofs.Ytaadeokgcacibaa.AFn
