/- It is proved here that which of two patterns says more, as path.More tells, is what the reference tells. -/
import Derived.Test.YtilhpgjohpekkaaDoorPOx2
import Derived.Test.YtilhpgjohpekkaaDoorMoreP
namespace Go.Proofs.YtilhpgjohpekkaaDoor.Pure
set_option linter.unusedVariables false
set_option linter.unusedSimpArgs false
open Go.RowKit Go.Proofs.YtilhpgjohpekkaaDoor.PO Go.Proofs.YtilhpgjohpekkaaDoorW.PrintWords Go.Proofs.YtilhpgjohpekkaaDoorW.PrintLast
open PLib PSplit PathPure PMore MoreP

theorem rfirst_l (s : ByteArray) (hN : s.size ≤ 1000000) (m : Nat) : ∀ i : Nat, i + m = s.size → ∀ k, m + 1 ≤ k →
    ciboriumref15_first.l0 k s (i : Int) = some (if 0 ≤ wild (s.data.toList.drop i) then (i : Int) + wild (s.data.toList.drop i) else 129) := by
  have hs := size_data s
  induction m with
  | zero =>
    intro i hi k hk
    obtain ⟨k, rfl⟩ : ∃ k', k = k' + 1 := ⟨k - 1, by omega⟩
    rw [ciboriumref15_first.l0, if_neg (by omega), List.drop_eq_nil_of_le (by omega), show wild [] = -1 from rfl, if_neg (by decide)]
  | succ m ih =>
    intro i hi k hk
    obtain ⟨k, rfl⟩ : ∃ k', k = k' + 1 := ⟨k - 1, by omega⟩
    have hil : i < s.data.toList.length := by omega
    have hw : wrap64 ((i : Int) + 1) = ((i + 1 : Nat) : Int) := by rw [IntWalk.wrap64_in _ (by omega)]; omega
    have b43 := bt_eq s i hil 43
    have b42 := bt_eq s i hil 42
    rw [show ((43 : UInt8).toNat : Int) = 43 from rfl] at b43
    rw [show ((42 : UInt8).toNat : Int) = 42 from rfl] at b42
    rw [ciboriumref15_first.l0, if_pos (by omega), if_pos (by omega), List.drop_eq_getElem_cons hil, wild_cons]
    by_cases h43 : s.data.toList[i] = 43
    · rw [if_pos (b43.2 h43), if_pos (Or.inl h43), if_pos (by decide)]; simp
    · rw [if_neg (fun e => h43 (b43.1 e))]
      by_cases h42 : s.data.toList[i] = 42
      · rw [if_pos (b42.2 h42), if_pos (Or.inr h42), if_pos (by decide)]; simp
      · rw [if_neg (fun e => h42 (b42.1 e)), hw, ih (i + 1) (by omega) k (by omega), if_neg (show ¬ (s.data.toList[i] = 43 ∨ s.data.toList[i] = 42) from fun h => h.elim h43 h42)]
        have := wild_ge (s.data.toList.drop (i + 1))
        generalize wild (s.data.toList.drop (i + 1)) = z at *
        congr 1
        repeat' split
        all_goals omega
theorem rfirst_f (s : ByteArray) (hN : s.size ≤ 1000000) (k : Nat) (hk : s.size + 1 ≤ k) : ciboriumref15_first.f k s = some (firstN s) := by
  have := rfirst_l s hN s.size 0 (by omega) k hk
  unfold ciboriumref15_first.f
  rw [show (0 : Int) = ((0 : Nat) : Int) from rfl, this, List.drop_zero, first_is]
  congr 1
  split <;> simp
theorem rplus_l (s : ByteArray) (hN : s.size ≤ 1000000) (m : Nat) : ∀ (i n : Nat), i + m = s.size → n ≤ i → ∀ k, m + 1 ≤ k →
    ciboriumref15_pluses.l0 k s (n : Int) (i : Int) = some (((n + (s.data.toList.drop i).count 43 : Nat) : Int)) := by
  have hs := size_data s
  induction m with
  | zero =>
    intro i n hi hn k hk
    obtain ⟨k, rfl⟩ : ∃ k', k = k' + 1 := ⟨k - 1, by omega⟩
    rw [ciboriumref15_pluses.l0, if_neg (by omega), List.drop_eq_nil_of_le (by omega)]
    rfl
  | succ m ih =>
    intro i n hi hn k hk
    obtain ⟨k, rfl⟩ : ∃ k', k = k' + 1 := ⟨k - 1, by omega⟩
    have hil : i < s.data.toList.length := by omega
    have hw : wrap64 ((i : Int) + 1) = ((i + 1 : Nat) : Int) := by rw [IntWalk.wrap64_in _ (by omega)]; omega
    have hw2 : wrap64 ((n : Int) + 1) = ((n + 1 : Nat) : Int) := by rw [IntWalk.wrap64_in _ (by omega)]; omega
    have b43 := bt_eq s i hil 43
    rw [show ((43 : UInt8).toNat : Int) = 43 from rfl] at b43
    rw [ciboriumref15_pluses.l0, if_pos (by omega), if_pos (by omega), List.drop_eq_getElem_cons hil, List.count_cons, hw, hw2]
    by_cases h43 : s.data.toList[i] = 43
    · rw [if_pos (b43.2 h43), ih (i + 1) (n + 1) (by omega) (by omega) k (by omega), if_pos (by simpa using h43)]
      congr 2; omega
    · rw [if_neg (fun e => h43 (b43.1 e)), ih (i + 1) n (by omega) (by omega) k (by omega), if_neg (by simpa using h43)]
      congr 2
theorem rplus_f (s : ByteArray) (hN : s.size ≤ 1000000) (k : Nat) (hk : s.size + 1 ≤ k) : ciboriumref15_pluses.f k s = some (cnt 43 s) := by
  have := rplus_l s hN s.size 0 0 (by omega) (Nat.le_refl _) k hk
  unfold ciboriumref15_pluses.f
  rw [show (0 : Int) = ((0 : Nat) : Int) from rfl, this, List.drop_zero, Nat.zero_add, cnt_eq]
theorem than_f (a b : Int) : ciboriumref15_than.f a b = some (Lib.compareInt a b) := by
  unfold ciboriumref15_than.f
  rcases ci_cases a b with ⟨h, e⟩ | ⟨h, e⟩ | ⟨h, e⟩ <;> rw [e]
  · rw [if_neg (by omega), if_pos h]
  · rw [if_neg (by omega), if_neg (by omega)]
  · rw [if_pos h]
theorem number_f (b : Bool) : ciboriumref15_number.f b = some (if b = true then 1 else 0) := by cases b <;> rfl
theorem bl_step (x y : UInt8) (a b : List UInt8) : Op.bytesLess (x :: a) (y :: b) = (decide (x < y) || (x == y && Op.bytesLess a b)) := rfl
theorem less_is (a : List UInt8) : ∀ b, Op.bytesLess a b = decide (Lib.compareBytes a b = -1) := by
  induction a with
  | nil => intro b; cases b <;> rfl
  | cons x a ih =>
    intro b
    cases b with
    | nil => rfl
    | cons y b =>
      rw [bl_step]
      rcases cb_cases x y with ⟨g, _, n⟩ | g | ⟨g, g', n⟩
      · rw [cb_less x y a b g, decide_eq_true g]; rfl
      · subst g
        rw [cb_same, decide_eq_false (UInt8.lt_irrefl _), ← ih]; simp
      · rw [cb_more x y a b g, decide_eq_false g', show (x == y) = false by simpa using n]; rfl
theorem q5_num (a b : ByteArray) : Lib.compareInt (if Op.bytesLess b.toList a.toList = true then 1 else 0) (if Op.bytesLess a.toList b.toList = true then 1 else 0) = q5 a b := by
  unfold q5
  rw [toL, toL, less_is, less_is]
  have h := cb_anti a.data.toList b.data.toList
  rw [h]
  rcases cb_rng a.data.toList b.data.toList with e | e | e <;> rw [e] <;> rfl
theorem last_bt (p : ByteArray) (h : patR p = 0) : (bt p ((p.size - 1 : Nat) : Int) == 42) = decide (cnt 42 p = 1) := by
  obtain ⟨C, b, h1, h2⟩ := pat_end p h
  have hs := size_data p
  have hl : p.data.toList.length = C.length + 1 := by rw [h1, List.length_append, List.length_singleton]
  have hb := bt_eq p (p.size - 1) (by omega) 42
  rw [show ((42 : UInt8).toNat : Int) = 42 from rfl] at hb
  have hx : p.data.toList[p.size - 1]'(by omega) = b := by
    simp only [h1, show p.size - 1 = C.length by omega]
    rw [List.getElem_append_right (Nat.le_refl _)]
    simp
  rw [hx] at hb
  rw [cnt_eq, h2, Bool.eq_iff_iff, beq_iff_eq, hb, decide_eq_true_eq]
  by_cases e : b = 42
  · rw [if_pos e]; simp [e]
  · rw [if_neg e]; simp [e]
theorem cnt01 (p : ByteArray) (h : patR p = 0) : cnt 42 p = 0 ∨ cnt 42 p = 1 := by
  have := pat_star_le p h
  rw [cnt_eq]
  omega
theorem rmore_j (a b : ByteArray) (ha : patR a = 0) (hb : patR b = 0) (k : Nat) (hk : 200 ≤ k) : ciboriumref15_More.j0 k a b true true false = some (moreQ a b) := by
  obtain ⟨k, rfl⟩ : ∃ k', k = k' + 1 := ⟨k - 1, by omega⟩
  have sa := pat_size a ha
  have sb := pat_size b hb
  have hwa : wrap64 ((a.size : Int) - 1) = ((a.size - 1 : Nat) : Int) := by rw [IntWalk.wrap64_in _ (by omega)]; omega
  have hwb : wrap64 ((b.size : Int) - 1) = ((b.size - 1 : Nat) : Int) := by rw [IntWalk.wrap64_in _ (by omega)]; omega
  rw [ciboriumref15_More.j0, if_neg (by decide), rfirst_f a (by omega) k (by omega), rfirst_f b (by omega) k (by omega)]
  simp only [Option.bind_some, than_f, number_f]
  rw [rplus_f a (by omega) k (by omega), rplus_f b (by omega) k (by omega), hwa, hwb, last_bt a ha, last_bt b hb]
  simp only [Option.bind_some]
  unfold moreQ
  by_cases h1 : firstN a = firstN b
  · have e1 : q1 a b = 0 := by
      unfold q1; rcases ci_cases (firstN a) (firstN b) with ⟨h, e⟩ | ⟨h, e⟩ | ⟨h, e⟩ <;> omega
    rw [if_pos h1, if_pos (by omega), if_pos (by omega), if_pos (by omega), if_pos (by omega), if_neg (show ¬ q1 a b ≠ 0 by simpa using e1)]
    have ca := cnt01 a ha
    have cb := cnt01 b hb
    by_cases h2 : cnt 42 a = cnt 42 b
    · rw [if_neg (show ¬ ((decide (cnt 42 a = 1) != decide (cnt 42 b = 1)) = true) by rw [h2]; simp), if_neg (show ¬ q2 a b ≠ 0 by unfold q2; omega)]
      by_cases h3 : cnt 43 a = cnt 43 b
      · have e3 : q3 a b = 0 := by
          unfold q3; rcases ci_cases (cnt 43 b) (cnt 43 a) with ⟨h, e⟩ | ⟨h, e⟩ | ⟨h, e⟩ <;> omega
        rw [if_pos h3, if_neg (show ¬ q3 a b ≠ 0 by simpa using e3)]
        by_cases h4 : (a.size : Int) = (b.size : Int)
        · have e4 : q4 a b = 0 := by
            unfold q4; rcases ci_cases (a.size : Int) (b.size : Int) with ⟨h, e⟩ | ⟨h, e⟩ | ⟨h, e⟩ <;> omega
          rw [if_pos h4, if_neg (show ¬ q4 a b ≠ 0 by simpa using e4), q5_num]
        · have e4 : q4 a b ≠ 0 := by
            unfold q4; rcases ci_cases (a.size : Int) (b.size : Int) with ⟨h, e⟩ | ⟨h, e⟩ | ⟨h, e⟩ <;> omega
          rw [if_neg h4, if_pos e4]
          rfl
      · have e3 : q3 a b ≠ 0 := by
          unfold q3; rcases ci_cases (cnt 43 b) (cnt 43 a) with ⟨h, e⟩ | ⟨h, e⟩ | ⟨h, e⟩ <;> omega
        rw [if_neg h3, if_pos e3]
        rfl
    · have e2 : q2 a b ≠ 0 := by unfold q2; omega
      rw [if_pos (show (decide (cnt 42 a = 1) != decide (cnt 42 b = 1)) = true by rcases ca with x | x <;> rcases cb with y | y <;> rw [x, y] <;> first | decide | omega), if_pos e2]
      unfold q2
      rcases ca with x | x <;> rcases cb with y | y <;> rw [x, y] <;> first | rfl | omega
  · have e1 : q1 a b ≠ 0 := by
      unfold q1; rcases ci_cases (firstN a) (firstN b) with ⟨h, e⟩ | ⟨h, e⟩ | ⟨h, e⟩ <;> omega
    rw [if_neg h1, if_pos e1]
    rfl
theorem rmore_f (a b : ByteArray) (k : Nat) (hk : 500 ≤ k) : ciboriumref15_More.f k a b = some (moreR a b) := by
  unfold ciboriumref15_More.f
  have e1 : ciboriumref15_CheckPattern.f k a = some (patR a) := rpat_f a k (by omega)
  have e2 : ciboriumref15_CheckPattern.f k b = some (patR b) := rpat_f b k (by omega)
  rw [e1, e2]
  simp only [Option.bind_some]
  unfold moreR
  by_cases ha : patR a = 0
  · by_cases hb : patR b = 0
    · rw [if_pos ha, if_pos ha, if_pos hb, ha, hb]
      exact rmore_j a b ha hb k (by omega)
    · obtain ⟨k, rfl⟩ : ∃ k', k = k' + 1 := ⟨k - 1, by omega⟩
      have hb' : (patR b == 0) = false := by simpa using hb
      rw [if_pos ha, if_pos ha, if_neg hb, ha, hb', ciboriumref15_More.j0, if_pos (by decide)]
      rfl
  · obtain ⟨k, rfl⟩ : ∃ k', k = k' + 1 := ⟨k - 1, by omega⟩
    have ha' : (patR a == 0) = false := by simpa using ha
    by_cases hb : patR b = 0
    · rw [if_neg ha, if_neg ha, if_pos hb, ha', hb, ciboriumref15_More.j0, if_pos rfl]
      rfl
    · have hb' : (patR b == 0) = false := by simpa using hb
      rw [if_neg ha, if_neg ha, if_neg hb, ha', hb', ciboriumref15_More.j0, if_pos rfl]
      rfl
theorem pmore_f (a b : ByteArray) (ha : a.size ≤ 1000000) (hb : b.size ≤ 1000000) : path_More.f a b = some (moreR a b) := by
  unfold path_More.f
  rw [if_pos ⟨ha, hb⟩]
theorem PathMore : ciboriumlaw15_PathMore.Pure := by
  intro a0 a1 h0 h1
  refine ⟨1000, ?_⟩
  have hw : wrap64 ((a0.size : Int) + (a1.size : Int)) = (a0.size : Int) + (a1.size : Int) := IntWalk.wrap64_in _ (by omega)
  have ew : ciboriumlaw15_works.f 1000 = some true := works_f 1000 (by decide)
  unfold ciboriumlaw15_PathMore.f
  rw [hw, ew]
  by_cases h : (a0.size : Int) + (a1.size : Int) > 65536
  · rw [if_pos h]; rfl
  · rw [if_neg h, pmore_f a0 a1 (by omega) (by omega), pmore_f a1 a0 (by omega) (by omega), rmore_f a0 a1 1000 (by decide), rmore_f a1 a0 1000 (by decide)]
    simp only [Option.bind_some]
    rw [if_pos trivial, if_pos trivial]
end Go.Proofs.YtilhpgjohpekkaaDoor.Pure
