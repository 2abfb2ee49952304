/- It is proved here that what path.Match tells of any two texts is what the reference tells. -/
import Derived.Test.YtilhpgjohpekkaaDoorPMx
import Derived.Test.YtilhpgjohpekkaaDoorPathMatch
namespace Go.Proofs.YtilhpgjohpekkaaDoor.Pure
set_option linter.unusedVariables false
set_option linter.unusedSimpArgs false
open Go.RowKit Go.Proofs.YtilhpgjohpekkaaDoor.PM Go.Proofs.YtilhpgjohpekkaaDoorW.PrintWords Go.Proofs.YtilhpgjohpekkaaDoorW.PrintLast
open PLib PSplit PathPure

theorem sz47 : (⟨#[47]⟩ : ByteArray).size = 1 := rfl
theorem big_le (n : Nat) (h : n ≤ 1000000000) : n ≤ 9223372036854775807 := Nat.le_trans h (by decide)
/-- The rest is put together. -/
theorem rl1 (L M : List ByteArray) (n : Nat) (hn : n < L.length) (hM : M.length ≤ 1000000) (hp : ∀ x ∈ M, x.size ≤ 128) (hL : L[n].size ≤ 1000000) (h0 : L[n].size ≠ 0) (m : Nat) : ∀ (i : Nat) (acc : ByteArray), i + m = M.length → acc.size ≤ 130 * i → ∀ k, m + 1 ≤ k →
    ciboriumref15_Match.l1 k L M (n : Int) acc (i : Int) = some (preB ((M.drop i).foldl (fun a y => (a ++ (⟨#[47]⟩ : ByteArray)) ++ y) acc) (L[n].extract 0 (L[n].size - 1))) := by
  induction m with
  | zero =>
    intro i acc hi ha k hk
    obtain ⟨k, rfl⟩ : ∃ k', k = k' + 1 := ⟨k - 1, by omega⟩
    have hw : wrap64 ((L[n].size : Int) - 1) = ((L[n].size - 1 : Nat) : Int) := by rw [IntWalk.wrap64_in _ (by omega)]; omega
    rw [ciboriumref15_Match.l1, if_neg (by omega), List.drop_eq_nil_of_le (by omega), List.foldl_nil, if_pos (by omega), if_pos (by omega), rd_at L n hn, hw, if_pos (by omega), if_pos (by omega), Int.toNat_natCast]
    unfold preB
    by_cases hs : (L[n].extract 0 (L[n].size - 1)).size ≤ acc.size
    · rw [if_pos (by omega), if_pos (by omega), if_pos (by omega), Int.toNat_natCast, decide_eq_true hs, Bool.true_and]
    · rw [if_neg (by omega), decide_eq_false hs, Bool.false_and]
  | succ m ih =>
    intro i acc hi ha k hk
    obtain ⟨k, rfl⟩ : ∃ k', k = k' + 1 := ⟨k - 1, by omega⟩
    have hib : i < M.length := by omega
    have hx := hp _ (List.getElem_mem hib)
    have hw : wrap64 ((i : Int) + 1) = ((i + 1 : Nat) : Int) := by rw [IntWalk.wrap64_in _ (by omega)]; omega
    have hA := big_le (acc.size + 1) (by omega)
    have hB := big_le ((acc ++ (⟨#[47]⟩ : ByteArray)).size + M[i].size) (by rw [ByteArray.size_append, sz47]; omega)
    rw [ciboriumref15_Match.l1, if_pos (by omega), if_pos hA, if_pos (by omega), rd_at M i hib, if_pos hB, hw, ih (i + 1) ((acc ++ (⟨#[47]⟩ : ByteArray)) ++ M[i]) (by omega) (by rw [ByteArray.size_append, ByteArray.size_append, sz47]; omega) k (by omega), List.drop_eq_getElem_cons hib, List.foldl_cons]
/-- The pieces are looked at, one behind the other. -/
theorem rl0 (L M : List ByteArray) (n : Nat) (st : Bool) (hM : M.length ≤ 1000000) (hL : L.length ≤ 1000000) (hp : ∀ x ∈ M, x.size ≤ 128) (hq : ∀ x ∈ L, x.size ≤ 128)
    (hst : if st = true then n + 1 = L.length ∧ n + 1 ≤ M.length else n = L.length ∧ n = M.length) (hlast : ∀ h : L ≠ [], starB (L.getLast h) = st) (m : Nat) : ∀ i : Nat, i + m = n → ∀ k, m + M.length + 3 ≤ k →
    ciboriumref15_Match.l0 k L M (n : Int) st (i : Int) = some (mt (L.drop i) (M.drop i)) := by
  induction m with
  | zero =>
    intro i hi k hk
    obtain ⟨k, rfl⟩ : ∃ k', k = k' + 1 := ⟨k - 1, by omega⟩
    rw [ciboriumref15_Match.l0, if_neg (by omega)]
    cases st with
    | false =>
      rw [if_neg (by decide)] at hst
      rw [if_neg (by decide), List.drop_eq_nil_of_le (by omega), List.drop_eq_nil_of_le (by omega)]
      rfl
    | true =>
      rw [if_pos rfl] at hst
      obtain rfl : i = n := by omega
      have hil : i < L.length := by omega
      have him : i < M.length := by omega
      have hx := hp _ (List.getElem_mem him)
      have hy := hq _ (List.getElem_mem hil)
      have hw : wrap64 ((i : Int) + 1) = ((i + 1 : Nat) : Int) := by rw [IntWalk.wrap64_in _ (by omega)]; omega
      have hne : L ≠ [] := by intro e; rw [e] at hil; simp at hil
      have hl := hlast hne
      rw [List.getLast_eq_getElem] at hl
      simp only [show L.length - 1 = i by omega] at hl
      have h0 : L[i].size ≠ 0 := by
        intro e
        unfold starB at hl
        rw [decide_eq_false (by simpa using e), Bool.false_and] at hl
        exact absurd hl (by decide)
      rw [if_pos rfl, if_pos (by omega), if_pos (by omega), rd_at M i him, hw, rl1 L M i hil hM hp (by omega) h0 (M.length - (i + 1)) (i + 1) M[i] (by omega) (by omega) k (by omega), List.drop_eq_getElem_cons hil, List.drop_eq_getElem_cons him, mt_cons, List.drop_eq_nil_of_le (show L.length ≤ i + 1 by omega), hl, if_pos (by rfl), joinB]
  | succ m ih =>
    intro i hi k hk
    obtain ⟨k, rfl⟩ : ∃ k', k = k' + 1 := ⟨k - 1, by omega⟩
    have hil : i < L.length := by cases st <;> simp at hst <;> omega
    have him : i < M.length := by cases st <;> simp at hst <;> omega
    have hw : wrap64 ((i : Int) + 1) = ((i + 1 : Nat) : Int) := by rw [IntWalk.wrap64_in _ (by omega)]; omega
    have hns : ((L.drop (i + 1)).isEmpty && starB L[i]) = false := by
      by_cases he : i + 1 < L.length
      · rw [List.drop_eq_getElem_cons he]; rfl
      · have hne : L ≠ [] := by intro e; rw [e] at hil; simp at hil
        have hl := hlast hne
        rw [List.getLast_eq_getElem] at hl
        simp only [show L.length - 1 = i by omega] at hl
        have : st = false := by
          cases st with
          | false => rfl
          | true => simp at hst; omega
        rw [hl, this, Bool.and_false]
    rw [ciboriumref15_Match.l0, if_pos (by omega), if_pos (by omega), if_pos (by omega), rd_at L i hil, rd_at M i him, hw, ih (i + 1) (by omega) k (by omega), List.drop_eq_getElem_cons hil, List.drop_eq_getElem_cons him, mt_cons, hns, if_neg (by decide : ¬ false = true)]
    by_cases h43 : L[i].toList = [43]
    · rw [if_pos h43, decide_eq_true h43, Bool.true_or, Bool.true_and]
    · rw [if_neg h43, if_pos (by omega), decide_eq_false h43, Bool.false_or]
      by_cases he : L[i].toList = M[i].toList
      · rw [if_pos he, decide_eq_true he, Bool.true_and]
      · rw [if_neg he, decide_eq_false he, Bool.false_and]
theorem pat_small (p : ByteArray) (h : patR p = 0) : p.size ≤ 128 := by
  apply small
  unfold patR at h
  cases hL : longB p with
  | true => rw [hL, if_pos rfl] at h; exact absurd h (by decide)
  | false => rfl
theorem split_small (p : ByteArray) (h : (splitR p).2 = 0) : p.size ≤ 128 := by
  apply small
  unfold splitR at h
  cases hL : longB p with
  | true => rw [hL, if_pos rfl] at h; exact absurd h (by decide)
  | false => rfl
theorem rmatch_f (p q : ByteArray) (hp : p.size ≤ 1000000) (hq : q.size ≤ 1000000) (k : Nat) (hk : 1000 ≤ k) : ciboriumref15_Match.f k p q = some (matchR p q) := by
  obtain ⟨k, rfl⟩ : ∃ k', k = k' + 3 := ⟨k - 3, by omega⟩
  have e1 : ∀ k, 500 ≤ k → ciboriumref15_CheckPattern.f k p = some (patR p) := fun k hk => rpat_f p k hk
  have e2 : ∀ k, 300 ≤ k → ciboriumref15_Check.f k q = some (splitR q).2 := fun k hk => check_f q k hk
  unfold ciboriumref15_Match.f matchR
  rw [e1 _ (by omega), Option.bind_some]
  by_cases h1 : patR p = 0
  · rw [if_pos h1, e2 _ (by omega), Option.bind_some, decide_eq_true h1, Bool.true_and, ciboriumref15_Match.j0]
    by_cases h2 : (splitR q).2 = 0
    · have hp8 := pat_small p h1
      have hq8 := split_small q h2
      have e3 : ∀ k, 130 ≤ k → ciboriumref15_parts.f k p = some (pieces 47 p) := fun k hk => parts_f p hp k (by omega)
      have e4 : ∀ k, 130 ≤ k → ciboriumref15_parts.f k q = some (pieces 47 q) := fun k hk => parts_f q hq k (by omega)
      have hLl := pieces_len p
      have hMl := pieces_len q
      have hne := pieces_ne p
      have hl0 : (pieces 47 p).length ≠ 0 := fun h => hne (List.eq_nil_of_length_eq_zero h)
      have hps : ∀ x ∈ pieces 47 p, x.size ≤ 128 := fun x hx => by have := piece_size 47 p x hx; omega
      have hqs : ∀ x ∈ pieces 47 q, x.size ≤ 128 := fun x hx => by have := piece_size 47 q x hx; omega
      rw [if_neg (by rw [h2]; decide), decide_eq_true h2, Bool.true_and, e3 _ (by omega), Option.bind_some, e4 _ (by omega), Option.bind_some]
      generalize pieces 47 p = L at *
      generalize pieces 47 q = M at *
      have hw : wrap64 ((L.length : Int) - 1) = ((L.length - 1 : Nat) : Int) := by rw [IntWalk.wrap64_in _ (by omega)]; omega
      have hil : L.length - 1 < L.length := by omega
      have hy := hps _ (List.getElem_mem hil)
      have e5 : ciboriumref15_Star.f (k + 2) L[L.length - 1] = some (starB L[L.length - 1]) := star_f _ (by omega) _ (by omega)
      have hgl : ∀ h : L ≠ [], starB (L.getLast h) = starB L[L.length - 1] := fun h => by rw [List.getLast_eq_getElem]
      rw [hw, if_pos (by omega), if_pos (by omega), rd_at L _ hil, e5, Option.bind_some]
      cases hs : starB L[L.length - 1] with
      | true =>
        rw [hs] at hgl
        have hw2 : wrap64 (((L.length - 1 : Nat) : Int) + 1) = (L.length : Int) := by rw [IntWalk.wrap64_in _ (by omega)]; omega
        rw [if_pos rfl, ciboriumref15_Match.j1, hw2, if_pos (rfl : true = true)]
        clear hw hw2 hy e5
        by_cases hc : M.length < L.length
        · have hdc : decide ((M.length : Int) < (L.length : Int)) = true := decide_eq_true (Int.ofNat_lt.2 hc)
          have hf : mt L M = false := by
            rw [Bool.eq_false_iff]
            intro h
            exact Nat.lt_irrefl _ (Nat.lt_of_lt_of_le hc (mt_le L M h))
          rw [hf]
          by_cases hc2 : (M.length : Int) < ((L.length - 1 : Nat) : Int)
          · rw [if_pos hc2, ciboriumref15_Match.j2, if_pos rfl]
          · rw [if_neg hc2, hdc, ciboriumref15_Match.j2, if_pos rfl]
        · have hdc : decide ((M.length : Int) < (L.length : Int)) = false := decide_eq_false (fun h => hc (Int.ofNat_lt.1 h))
          have hdn : ¬ (M.length : Int) < ((L.length - 1 : Nat) : Int) := fun h => hc (Nat.lt_of_lt_of_le (Int.ofNat_lt.1 h) (Nat.sub_le _ _))
          rw [if_neg hdn, hdc, ciboriumref15_Match.j2, if_neg (by decide)]
          have := rl0 L M (L.length - 1) true (by omega) (by omega) hqs hps (by rw [if_pos rfl]; omega) hgl (L.length - 1) 0 (by omega) k (by omega)
          rw [List.drop_zero, List.drop_zero] at this
          exact this
      | false =>
        rw [hs] at hgl
        rw [if_neg (by decide), ciboriumref15_Match.j1, if_neg (by decide : ¬ false = true)]
        clear hw hy e5
        by_cases hc : M.length = L.length
        · rw [if_neg (by omega), if_pos (by omega), ciboriumref15_Match.j2, if_neg (by decide)]
          have := rl0 L M L.length false (by omega) (by omega) hqs hps (by rw [if_neg (by decide)]; omega) hgl L.length 0 (by omega) k (by omega)
          rw [List.drop_zero, List.drop_zero] at this
          exact this
        · have hf : mt L M = false := by
            rw [Bool.eq_false_iff]
            intro h
            exact hc (mt_eq L M hgl h).symm
          rw [hf]
          by_cases hc2 : (M.length : Int) < (L.length : Int)
          · rw [if_pos hc2, ciboriumref15_Match.j2, if_pos rfl]
          · rw [if_neg hc2, if_neg (by omega), ciboriumref15_Match.j2, if_pos rfl]
    · rw [if_pos (by simpa using h2), decide_eq_false h2, Bool.false_and]
  · rw [if_neg h1, ciboriumref15_Match.j0, if_pos rfl, decide_eq_false h1, Bool.false_and]
theorem PathMatches : ciboriumlaw15_PathMatches.Pure := by
  intro a0 a1 h0 h1
  refine ⟨1000, ?_⟩
  have hw : wrap64 ((a0.size : Int) + (a1.size : Int)) = (a0.size : Int) + (a1.size : Int) := IntWalk.wrap64_in _ (by omega)
  have ew : ciboriumlaw15_works.f 1000 = some true := works_f 1000 (by decide)
  unfold ciboriumlaw15_PathMatches.f
  rw [hw, ew]
  by_cases h : (a0.size : Int) + (a1.size : Int) > 65536
  · rw [if_pos h]; rfl
  · have em : path_Match.f 1000 a0 a1 = some (matchR a0 a1) := pmatch_f a0 a1 (by omega) (by omega) 1000 (by decide)
    rw [if_neg h, em, rmatch_f a0 a1 (by omega) (by omega) 1000 (by decide), Option.bind_some, Option.bind_some, if_pos (by simp)]
    rfl
end Go.Proofs.YtilhpgjohpekkaaDoor.Pure
