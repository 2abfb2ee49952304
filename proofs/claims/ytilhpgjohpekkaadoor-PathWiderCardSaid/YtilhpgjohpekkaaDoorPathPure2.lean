/- What is said here: the reference's patterns are the program's. -/
import Derived.Test.YtilhpgjohpekkaaDoorPathPure
import Derived.Test.YtilhpgjohpekkaaDoorCutEnd
namespace Go.Proofs.YtilhpgjohpekkaaDoor.PathPure
set_option linter.unusedVariables false
set_option linter.unusedSimpArgs false
open Go.RowKit Go.Proofs.YtilhpgjohpekkaaDoorW.PrintWords Go.Proofs.YtilhpgjohpekkaaDoorW.PrintLast Go.Proofs.YtilhpgjohpekkaaDoorW.PrintMore
open PLib PSplit

/-- Letters, and a star. -/
def starB (s : ByteArray) : Bool := decide (s.size ≠ 0) && (decide (bt s ((s.size - 1 : Nat) : Int) = 42) && letS (s.extract 0 (s.size - 1)))
theorem star_f (s : ByteArray) (hN : s.size ≤ 1000000) (k : Nat) (hk : s.size + 2 ≤ k) : PC.ciboriumref15_Star.f k s = some (starB s) := by
  have hd := size_data s
  unfold PC.ciboriumref15_Star.f starB
  by_cases h0 : s.size = 0
  · rw [if_pos (by rw [toL]; exact List.eq_nil_of_length_eq_zero (by omega)), decide_eq_false (by simpa using h0), Bool.false_and]
  · have hw : wrap64 ((s.size : Int) - 1) = ((s.size - 1 : Nat) : Int) := by rw [IntWalk.wrap64_in _ (by omega)]; omega
    rw [if_neg (fun h => by rw [toL] at h; rw [h] at hd; exact h0 hd), decide_eq_true h0, Bool.true_and, hw, if_pos (by omega), if_pos (by omega)]
    by_cases h1 : bt s ((s.size - 1 : Nat) : Int) = 42
    · rw [if_pos h1, if_pos (by omega), Int.toNat_natCast, letters_f _ (by rw [ByteArray.size_extract]; omega) k (by rw [ByteArray.size_extract]; omega), Option.bind_some, decide_eq_true h1, Bool.true_and]
    · rw [if_neg h1, decide_eq_false h1, Bool.false_and]
theorem head_f (s : ByteArray) (hN : s.size ≤ 1000000) : ∃ h, PC.path_head.f s = some (h, starB s) := by
  unfold PC.path_head.f starB
  rw [show (⟨#[42]⟩ : ByteArray) = ⟨#[(42 : UInt8)]⟩ from rfl, cutSuffix_f s 42 hN, Option.bind_some, show ((42 : UInt8).toNat : Int) = 42 from rfl]
  by_cases h1 : s.size ≠ 0 ∧ bt s ((s.size - 1 : Nat) : Int) = 42
  · refine ⟨s.extract 0 (s.size - 1), ?_⟩
    have e : PC.path_letters.f (s.extract 0 (s.size - 1)) = some (letS (s.extract 0 (s.size - 1))) := by
      show lettersF _ = _
      unfold lettersF
      rw [if_pos (by rw [ByteArray.size_extract]; omega)]
    rw [if_pos h1, if_pos rfl, e, Option.bind_some, decide_eq_true h1.1, decide_eq_true h1.2, Bool.true_and, Bool.true_and]
  · refine ⟨s, ?_⟩
    rw [if_neg h1, if_neg (by simp)]
    by_cases h0 : s.size = 0
    · rw [decide_eq_false (by simpa using h0), Bool.false_and]
    · rw [decide_eq_true h0, decide_eq_false (fun h => h1 ⟨h0, h⟩)]; rfl
/-- Piece i of n may stand in a pattern. -/
def okP (n i : Nat) (x : ByteArray) : Bool := segB x || (decide (x.toList = [43]) || (starB x && decide (n ≤ i + 1)))
def okAll (n : Nat) : Nat → List ByteArray → Bool
  | _, [] => true
  | i, x :: l => okP n i x && okAll n (i + 1) l
/-- What CheckPattern tells. -/
def patR (s : ByteArray) : Int := if longB s = true then 3 else if okAll (pieces 47 s).length 0 (pieces 47 s) = true then 0 else 151
theorem rpat_l (ps : List ByteArray) (hl : ps.length ≤ 1000000) (hp : ∀ x ∈ ps, x.size ≤ 128) (m : Nat) : ∀ i : Nat, i + m = ps.length → ∀ k, m + 140 ≤ k → PC.ciboriumref15_CheckPattern.l0 k ps (i : Int) = some (if okAll ps.length i (ps.drop i) = true then 0 else 151) := by
  induction m with
  | zero =>
    intro i hi k hk
    obtain ⟨k, rfl⟩ : ∃ k', k = k' + 1 := ⟨k - 1, by omega⟩
    rw [PC.ciboriumref15_CheckPattern.l0, if_neg (by omega), List.drop_eq_nil_of_le (by omega), if_pos (by rfl)]
  | succ m ih =>
    intro i hi k hk
    obtain ⟨k, rfl⟩ : ∃ k', k = k' + 1 := ⟨k - 1, by omega⟩
    have hib : i < ps.length := by omega
    have hw : wrap64 ((i : Int) + 1) = ((i + 1 : Nat) : Int) := by rw [IntWalk.wrap64_in _ (by omega)]; omega
    have hw2 : wrap64 ((ps.length : Int) - 1) = (ps.length : Int) - 1 := IntWalk.wrap64_in _ (by omega)
    have hx := hp _ (List.getElem_mem hib)
    rw [PC.ciboriumref15_CheckPattern.l0, if_pos (by omega), if_pos (by omega), rd_at ps i hib, segment_f _ (by omega) k (by omega), Option.bind_some, hw, hw2, ih (i + 1) (by omega) k (by omega), star_f _ (by omega) k (by omega), Option.bind_some, List.drop_eq_getElem_cons hib, okAll, okP]
    cases segB ps[i] with
    | true => rw [if_pos rfl, Bool.true_or, Bool.true_and]
    | false =>
      rw [if_neg (by decide), Bool.false_or]
      by_cases h43 : ps[i].toList = [43]
      · rw [if_pos h43, decide_eq_true h43, Bool.true_or, Bool.true_and]
      · rw [if_neg h43, decide_eq_false h43, Bool.false_or]
        by_cases hlast : (i : Int) = (ps.length : Int) - 1
        · rw [if_pos hlast, decide_eq_true (by omega), Bool.and_true]
          cases starB ps[i] with
          | true => rw [if_pos rfl, Bool.true_and]
          | false => rw [if_neg (by decide), if_neg (by rw [Bool.false_and]; decide)]
        · rw [if_neg hlast, decide_eq_false (by omega), Bool.and_false, Bool.false_and, if_neg (by decide)]
theorem ppat_l (ps : List ByteArray) (hl : ps.length ≤ 1000000) (hp : ∀ x ∈ ps, x.size ≤ 128) (m : Nat) : ∀ i : Nat, i + m = ps.length → ∀ k, 2 * m + 10 ≤ k → PC.path_CheckPattern.l0 k ps ps (ps.length : Int) (i : Int) = some (if okAll ps.length i (ps.drop i) = true then 0 else 151) := by
  induction m with
  | zero =>
    intro i hi k hk
    obtain ⟨k, rfl⟩ : ∃ k', k = k' + 1 := ⟨k - 1, by omega⟩
    rw [PC.path_CheckPattern.l0, if_neg (by omega), List.drop_eq_nil_of_le (by omega), if_pos (by rfl)]
  | succ m ih =>
    intro i hi k hk
    obtain ⟨k, rfl⟩ : ∃ k', k = k' + 2 := ⟨k - 2, by omega⟩
    have hib : i < ps.length := by omega
    have hw : wrap64 ((i : Int) + 1) = ((i + 1 : Nat) : Int) := by rw [IntWalk.wrap64_in _ (by omega)]; omega
    have hw2 : wrap64 ((ps.length : Int) - 1) = (ps.length : Int) - 1 := IntWalk.wrap64_in _ (by omega)
    have hx := hp _ (List.getElem_mem hib)
    have hsf : PC.path_segment.f ps[i] = some (segB ps[i]) := seg_f ps[i] (by omega)
    obtain ⟨hh, hhf⟩ := head_f ps[i] (by omega)
    have hj : ∀ b, PC.path_CheckPattern.j1 (k + 1) ps (i : Int) ps[i] ps (ps.length : Int) (i : Int) b = some (if (b || (starB ps[i] && decide (ps.length ≤ i + 1))) = true then (if okAll ps.length (i + 1) (ps.drop (i + 1)) = true then 0 else 151) else 151) := by
      intro b
      rw [PC.path_CheckPattern.j1, hw, hw2, ih (i + 1) (by omega) k (by omega), hhf, Option.bind_some]
      cases b with
      | true => rw [if_pos rfl, Bool.true_or, if_pos rfl]
      | false =>
        rw [if_neg (by decide), Bool.false_or]
        cases starB ps[i] with
        | false => rw [if_neg (by simp), Bool.false_and, if_neg (by decide)]
        | true =>
          rw [if_pos rfl, Bool.true_and]
          by_cases hlast : (i : Int) < (ps.length : Int) - 1
          · rw [if_pos hlast, decide_eq_false (by omega), if_neg (by decide)]
          · rw [if_neg hlast, decide_eq_true (by omega), if_pos rfl]
    rw [PC.path_CheckPattern.l0, if_pos (by omega), if_pos (by omega), if_pos (by omega), rd_at ps i hib, hsf, Option.bind_some, hj, hj, List.drop_eq_getElem_cons hib, okAll, okP]
    cases segB ps[i] with
    | true => rw [if_pos rfl, Bool.true_or, Bool.true_or, if_pos rfl, Bool.true_and]
    | false =>
      rw [if_neg (by decide), Bool.false_or]
      have e : (ps[i].toList == [43]) = decide (ps[i].toList = [43]) := by rw [Bool.eq_iff_iff, beq_iff_eq, decide_eq_true_eq]
      rw [e]
      cases (decide (ps[i].toList = [43]) || (starB ps[i] && decide (ps.length ≤ i + 1))) with
      | true => rw [if_pos rfl, Bool.true_and]
      | false => rw [if_neg (by decide), if_neg (by rw [Bool.false_and]; decide)]
theorem rpat_f (s : ByteArray) (k : Nat) (hk : 500 ≤ k) : PC.ciboriumref15_CheckPattern.f k s = some (patR s) := by
  unfold PC.ciboriumref15_CheckPattern.f patR
  rw [long_f s k (by omega), Option.bind_some]
  cases hL : longB s with
  | true => rw [if_pos rfl, if_pos rfl]
  | false =>
    have hsz := small s hL
    have hpl := pieces_len s
    rw [if_neg (by decide), if_neg (by decide), parts_f s (by omega) k (by omega), Option.bind_some]
    have := rpat_l (pieces 47 s) (by omega) (fun x hx => by have := piece_size 47 s x hx; omega) (pieces 47 s).length 0 (by omega) k (by omega)
    rw [List.drop_zero] at this
    exact this
theorem ppat_f (s : ByteArray) (hN : s.size ≤ 1000000) (k : Nat) (hk : 500 ≤ k) : PC.path_CheckPattern.f k s = some (patR s) := by
  unfold PC.path_CheckPattern.f patR
  have hlf : PC.path_long.f s = some (longB s) := PSplit.long_f s
  rw [hlf, Option.bind_some]
  cases hL : longB s with
  | true => rw [if_pos rfl, if_pos rfl]
  | false =>
    have hsz := small s hL
    have hpl := pieces_len s
    have hsp : PC.strings_Split.f s ⟨#[47]⟩ = some (pieces 47 s) := by
      show splitF s ⟨#[47]⟩ = _
      unfold splitF
      show (if s.size ≤ 1000000000 then some (pieces 47 s) else none) = _
      rw [if_pos (by omega)]
    rw [if_neg (by decide), if_neg (by decide), hsp, Option.bind_some]
    have := ppat_l (pieces 47 s) (by omega) (fun x hx => by have := piece_size 47 s x hx; omega) (pieces 47 s).length 0 (by omega) k (by omega)
    rw [List.drop_zero] at this
    exact this
end Go.Proofs.YtilhpgjohpekkaaDoor.PathPure
