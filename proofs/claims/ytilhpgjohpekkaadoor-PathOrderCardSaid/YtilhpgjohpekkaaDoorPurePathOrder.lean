/- It is proved here that which of two patterns says more is told by an order. -/
import Derived.Test.YtilhpgjohpekkaaDoorPOx3
import Derived.Test.YtilhpgjohpekkaaDoorMoreP2
namespace Go.Proofs.YtilhpgjohpekkaaDoor.Pure
set_option linter.unusedVariables false
set_option linter.unusedSimpArgs false
open Go.RowKit Go.Proofs.YtilhpgjohpekkaaDoor.PO Go.Proofs.YtilhpgjohpekkaaDoorW.PrintWords Go.Proofs.YtilhpgjohpekkaaDoorW.PrintLast
open PLib PSplit PathPure PMore MoreP

theorem oj2 (a b : ByteArray) (x : Int) (hx : x = moreR a b) (k : Nat) (hk : 60 ≤ k) : ciboriumlaw15_PathOrder.j2 (k + 1) a b x false = some true := by
  have ea : path_Check.f a = some (splitR a).2 := rfl
  have eb : path_Check.f b = some (splitR b).2 := rfl
  have ew : ciboriumlaw15_works.f k = some true := works_f k hk
  rw [ciboriumlaw15_PathOrder.j2, if_neg (by decide), ea, eb, ew]
  simp only [Option.bind_some]
  by_cases h1 : (splitR a).2 = 0
  · rw [if_pos h1]
    by_cases h2 : (splitR b).2 = 0
    · rw [if_pos h2]
    · rw [if_neg h2, if_pos (by rw [hx]; exact more_path a b h1 h2)]
  · rw [if_neg h1]
theorem oj1 (a b : ByteArray) (x y z : Int) (hx : x = -1 ∨ x = 0 ∨ x = 1) (hy : y = -1 ∨ y = 0 ∨ y = 1) (hz : z = -1 ∨ z = 0 ∨ z = 1) (k : Nat) (hj : ciboriumlaw15_PathOrder.j2 k a b x false = some true)
    (t1 : 0 ≤ x → 0 ≤ y → 0 ≤ z ∧ (z = 0 → x = 0 ∧ y = 0)) (t2 : x = 0 → y = 0 → z = 0) : ciboriumlaw15_PathOrder.j1 (k + 1) a b x y z false = some true := by
  rw [ciboriumlaw15_PathOrder.j1]
  rcases hx with rfl | rfl | rfl <;> rcases hy with rfl | rfl | rfl <;> rcases hz with rfl | rfl | rfl <;> first
    | (simp [hj]; done)
    | (exfalso; simp at t1 t2; done)
    | (exfalso; have := t1 (by decide) (by decide); omega)
    | (exfalso; have := t2 rfl rfl; omega)
theorem PathOrder : ciboriumlaw15_PathOrder.Pure := by
  intro a b c h0 h1 h2
  refine ⟨1000, ?_⟩
  have hw : wrap64 ((a.size : Int) + (b.size : Int)) = (a.size : Int) + (b.size : Int) := IntWalk.wrap64_in _ (by omega)
  have hw2 : wrap64 ((a.size : Int) + (b.size : Int) + (c.size : Int)) = (a.size : Int) + (b.size : Int) + (c.size : Int) := IntWalk.wrap64_in _ (by omega)
  have ew : ciboriumlaw15_works.f 1000 = some true := works_f 1000 (by decide)
  unfold ciboriumlaw15_PathOrder.f
  rw [hw, hw2, ew]
  by_cases h : (a.size : Int) + (b.size : Int) + (c.size : Int) > 65536
  · rw [if_pos h]; rfl
  · have pm : ∀ a b : ByteArray, a.size ≤ 1000000 → b.size ≤ 1000000 → path_More.f a b = some (moreR a b) := fun a b ha hb => by
      unfold path_More.f
      rw [if_pos ⟨ha, hb⟩]
    rw [if_neg h, pm a b (by omega) (by omega), pm b c (by omega) (by omega), pm a c (by omega) (by omega), pm b a (by omega) (by omega), pm a a (by omega) (by omega)]
    simp only [Option.bind_some]
    clear hw hw2 pm ew
    have r1 := good_more.rng a b
    have r2 := good_more.rng b c
    have r3 := good_more.rng a c
    have a1 := good_more.anti a b
    have a2 := good_more.anti b c
    have a3 := good_more.anti a c
    have a4 := good_more.anti a a
    have t1 := good_more.tr a b c
    have t2 := good_more.tr c b a
    simp only [← more_is] at r1 r2 r3 a1 a2 a3 a4 t1 t2
    have hz : (moreR a b == 0) != (a.toList == b.toList) → ¬ (patR a = 0 ∧ patR b = 0) := by
      rintro hne ⟨ha, hb⟩
      have := more_zero a b ha hb
      by_cases e : a = b
      · subst e
        rw [this.2 rfl] at hne
        exact absurd hne (by simp)
      · have h3 : moreR a b ≠ 0 := fun q => e (this.1 q)
        have h4 : a.toList ≠ b.toList := fun q => e (list_inj q)
        rw [show (moreR a b == 0) = false by simpa using h3, show (a.toList == b.toList) = false by simpa using h4] at hne
        exact absurd hne (by decide)
    have hwn : wrap64 (- moreR a b) = - moreR a b := IntWalk.wrap64_in _ (by omega)
    rw [hwn, if_pos a1, if_pos (by omega), if_neg (by omega)]
    have hj2 := oj2 a b (moreR a b) rfl 996 (by decide)
    have hj1 : ciboriumlaw15_PathOrder.j1 998 a b (moreR a b) (moreR b c) (moreR a c) false = some true := oj1 a b _ _ _ r1 r2 r3 997 hj2 t1 (by
      intro e1 e2
      have := t1 (by omega) (by omega)
      have := t2 (by omega) (by omega)
      omega)
    have hd : decide (moreR a b > 1) = false := decide_eq_false (by omega)
    rw [hd, show (1000 : Nat) = 999 + 1 from rfl, ciboriumlaw15_PathOrder.j0, if_neg (by decide)]
    have ea : path_CheckPattern.f 999 a = some (patR a) := ppat_f a (by omega) 999 (by decide)
    have eb : path_CheckPattern.f 999 b = some (patR b) := ppat_f b (by omega) 999 (by decide)
    have hm : ciboriumlaw15_PathOrder.j1 999 a b (moreR a b) (moreR b c) (moreR a c) false = some true := oj1 a b _ _ _ r1 r2 r3 998 (oj2 a b (moreR a b) rfl 997 (by decide)) t1 (by
      intro e1 e2
      have := t1 (by omega) (by omega)
      have := t2 (by omega) (by omega)
      omega)
    rw [ea, eb]
    simp only [Option.bind_some]
    by_cases ha : patR a = 0
    · rw [if_pos ha]
      by_cases hb : patR b = 0
      · rw [if_pos hb]
        have : ((moreR a b == 0) != (a.toList == b.toList)) = false := by
          rw [Bool.eq_false_iff]
          exact fun q => hz q ⟨ha, hb⟩
        rw [this]
        exact hm
      · rw [if_neg hb]
        exact hm
    · rw [if_neg ha]
      exact hm
end Go.Proofs.YtilhpgjohpekkaaDoor.Pure
