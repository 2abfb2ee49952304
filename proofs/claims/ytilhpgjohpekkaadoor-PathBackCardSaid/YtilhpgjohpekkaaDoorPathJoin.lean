/- What is said here: what path.Join tells of a list of texts. -/
import Derived.Test.YtilhpgjohpekkaaDoorPJx
import Derived.Test.YtilhpgjohpekkaaDoorPathMatch
namespace Go.Proofs.YtilhpgjohpekkaaDoor.PathPure
set_option linter.unusedVariables false
set_option linter.unusedSimpArgs false
open Go.RowKit Go.Proofs.YtilhpgjohpekkaaDoorW.PrintWords Go.Proofs.YtilhpgjohpekkaaDoorW.PrintLast Go.Proofs.YtilhpgjohpekkaaDoorW.PrintMore
open PLib PSplit

/-- How many bytes texts have together. -/
def tot : List ByteArray → Nat
  | [] => 0
  | x :: l => x.size + tot l
theorem tot_app (a b : List ByteArray) : tot (a ++ b) = tot a + tot b := by
  induction a with
  | nil => simp [tot]
  | cons x a ih => simp only [List.cons_append, tot, ih]; omega
theorem tot_mem (l : List ByteArray) : ∀ x ∈ l, x.size ≤ tot l := by
  induction l with
  | nil => intro x h; simp at h
  | cons y l ih =>
    intro x h
    rw [List.mem_cons] at h
    rcases h with rfl | h
    · simp only [tot]; omega
    · have := ih x h
      simp only [tot]; omega
theorem tot_le (l : List ByteArray) (h : ∀ x ∈ l, x.size ≤ 140737488355328) : tot l ≤ l.length * 140737488355328 := by
  induction l with
  | nil => simp [tot]
  | cons y l ih =>
    have h1 := h y (by simp)
    have h2 := ih (fun x hx => h x (by simp [hx]))
    simp only [tot, List.length_cons]
    omega
theorem sz47 : (⟨#[47]⟩ : ByteArray).size = 1 := rfl
theorem fold_size (l : List ByteArray) : ∀ a : ByteArray, (l.foldl (fun a y => (a ++ (⟨#[47]⟩ : ByteArray)) ++ y) a).size = a.size + l.length + tot l := by
  induction l with
  | nil => intro a; simp [tot]
  | cons x l ih =>
    intro a
    rw [List.foldl_cons, ih, ByteArray.size_append, ByteArray.size_append, sz47]
    simp only [tot, List.length_cons]
    omega
theorem join_size (x : ByteArray) (l : List ByteArray) : (joinB (x :: l)).size = l.length + tot (x :: l) := by
  rw [joinB, fold_size]
  simp only [tot]
  omega
theorem join_snoc (x : ByteArray) (l : List ByteArray) (y : ByteArray) : joinB (x :: l ++ [y]) = (joinB (x :: l) ++ (⟨#[47]⟩ : ByteArray)) ++ y := by
  rw [List.cons_append, joinB, joinB, List.foldl_append]
  rfl
theorem empty_app (x : ByteArray) : (⟨#[]⟩ : ByteArray) ++ x = x := by
  apply ByteArray.ext
  apply Array.toList_inj.1
  rw [app_list]
  rfl
/-- The shelf's own word for it. -/
theorem tail_snoc (l : List (List UInt8)) : ∀ a : List UInt8, l.foldl (fun a y => (a ++ [47]) ++ y) a = a ++ Lib.joinTail [47] l := by
  induction l with
  | nil => intro a; simp [Lib.joinTail]
  | cons x l ih =>
    intro a
    rw [List.foldl_cons, ih]
    simp [Lib.joinTail, List.append_assoc]
theorem join_lib (x : ByteArray) (l : List ByteArray) : (⟨(Lib.join ((x :: l).map (·.data.toList)) (⟨#[47]⟩ : ByteArray).data.toList).toArray⟩ : ByteArray) = joinB (x :: l) := by
  apply ByteArray.ext
  apply Array.toList_inj.1
  have h : ∀ l : List ByteArray, l = (l.map (·.data.toList)).map txt := fun l => by rw [List.map_map]; exact (List.map_id' l).symm.trans (List.map_congr_left (fun a _ => (txt_data a).symm))
  rw [joinB, h l, fold_list, tail_snoc, List.map_cons, ← h l]
  exact Lib.join_cons _ _ _
theorem join_len (xs : List ByteArray) : (Lib.join (xs.map (·.data.toList)) (⟨#[47]⟩ : ByteArray).data.toList).length = (joinB xs).size := by
  cases xs with
  | nil => rfl
  | cons x l => rw [← join_lib, size_data]

/-- What Join tells. -/
def joinR (xs : List ByteArray) : ByteArray × Int :=
  if 16 < xs.length then (⟨#[]⟩, 3) else if 128 < (joinB xs).size then (⟨#[]⟩, 3) else if xs.all segB = true then (if xs.length = 0 then (⟨#[]⟩, 150) else (joinB xs, 0)) else (⟨#[]⟩, 150)
theorem sjoin_f (xs : List ByteArray) (h1 : xs.length ≤ 16) (h2 : (joinB xs).size ≤ 128) (h0 : xs.length ≠ 0) : PJ.strings_Join.f xs ⟨#[47]⟩ = some (joinB xs) := by
  show PJoin.joinF xs ⟨#[47]⟩ = _
  unfold PJoin.joinF
  rw [if_pos ⟨by omega, by rw [join_len]; omega⟩]
  cases xs with
  | nil => exact absurd rfl h0
  | cons x l => rw [join_lib]
theorem pjoin_l1 (xs : List ByteArray) (h1 : xs.length ≤ 16) (h2 : (joinB xs).size ≤ 128) (hp : ∀ x ∈ xs, x.size ≤ 128) (m : Nat) : ∀ i : Nat, i + m = xs.length → ∀ k, m + 1 ≤ k →
    PJ.path_Join.l1 k xs xs (xs.length : Int) (i : Int) = some (if (xs.drop i).all segB = true then (if xs.length = 0 then (⟨#[]⟩, 150) else (joinB xs, 0)) else (⟨#[]⟩, 150)) := by
  induction m with
  | zero =>
    intro i hi k hk
    obtain ⟨k, rfl⟩ : ∃ k', k = k' + 1 := ⟨k - 1, by omega⟩
    rw [PJ.path_Join.l1, if_neg (by omega), List.drop_eq_nil_of_le (by omega), List.all_nil, if_pos (rfl : true = true)]
    by_cases h0 : xs.length = 0
    · rw [if_pos (by omega), if_pos h0]
    · rw [if_neg (by omega), if_neg h0, sjoin_f xs h1 h2 h0]; rfl
  | succ m ih =>
    intro i hi k hk
    obtain ⟨k, rfl⟩ : ∃ k', k = k' + 1 := ⟨k - 1, by omega⟩
    have hib : i < xs.length := by omega
    have hx := hp _ (List.getElem_mem hib)
    have hs : PJ.path_segment.f xs[i] = some (segB xs[i]) := seg_f xs[i] (by omega)
    have hw : wrap64 ((i : Int) + 1) = ((i + 1 : Nat) : Int) := by rw [IntWalk.wrap64_in _ (by omega)]; omega
    rw [PJ.path_Join.l1, if_pos (by omega), if_pos (by omega), if_pos (by omega), rd_at xs i hib, hs, Option.bind_some, hw, ih (i + 1) (by omega) k (by omega), List.drop_eq_getElem_cons hib, List.all_cons]
    cases segB xs[i] with
    | true => rw [if_pos rfl, Bool.true_and]
    | false => rw [if_neg (by decide), Bool.false_and, if_neg (by decide)]
theorem pjoin_l0 (xs : List ByteArray) (hl : xs.length ≤ 4096) (hp : ∀ x ∈ xs, x.size ≤ 140737488355328) (m : Nat) : ∀ i : Nat, i + m = xs.length → ∀ k, m + xs.length + 3 ≤ k →
    PJ.path_Join.l0 k xs ((xs.length : Int) - 1 + (tot (xs.take i) : Int)) xs (xs.length : Int) (i : Int) = some (joinR xs) := by
  have hT := tot_le xs hp
  have hT2 : tot xs ≤ 4096 * 140737488355328 := Nat.le_trans hT (Nat.mul_le_mul_right _ hl)
  clear hT
  induction m with
  | zero =>
    intro i hi k hk
    obtain ⟨k, rfl⟩ : ∃ k', k = k' + 2 := ⟨k - 2, by omega⟩
    rw [PJ.path_Join.l0, if_neg (by omega), List.take_of_length_le (by omega)]
    unfold joinR
    by_cases h16 : 16 < xs.length
    · rw [if_pos (by omega), PJ.path_Join.j1, if_pos rfl, if_pos h16]
    · have hd : decide ((xs.length : Int) - 1 + (tot xs : Int) > 128) = decide (128 < (joinB xs).size) := by
        cases xs with
        | nil => rfl
        | cons x l =>
          rw [Bool.eq_iff_iff, decide_eq_true_eq, decide_eq_true_eq, join_size, List.length_cons]
          omega
      rw [if_neg (by omega), hd, PJ.path_Join.j1, if_neg h16]
      by_cases h128 : 128 < (joinB xs).size
      · rw [if_pos (by simpa using h128), if_pos h128]
      · have hp8 : ∀ x ∈ xs, x.size ≤ 128 := by
          intro x hx
          have h1 := tot_mem xs x hx
          cases xs with
          | nil => simp at hx
          | cons y l =>
            rw [join_size] at h128
            omega
        rw [if_neg (by simpa using h128), if_neg h128]
        have := pjoin_l1 xs (by omega) (by omega) hp8 xs.length 0 (by omega) k (by omega)
        rw [List.drop_zero] at this
        exact this
  | succ m ih =>
    intro i hi k hk
    obtain ⟨k, rfl⟩ : ∃ k', k = k' + 1 := ⟨k - 1, by omega⟩
    have hib : i < xs.length := by omega
    have ht : tot (xs.take (i + 1)) = tot (xs.take i) + xs[i].size := by
      rw [List.take_succ_eq_append_getElem hib, tot_app]
      simp [tot]
    have hle : tot (xs.take (i + 1)) ≤ tot xs := by
      have := tot_app (xs.take (i + 1)) (xs.drop (i + 1))
      rw [List.take_append_drop] at this
      omega
    have hw2 : wrap64 ((xs.length : Int) - 1 + (tot (xs.take i) : Int) + (xs[i].size : Int)) = (xs.length : Int) - 1 + (tot (xs.take (i + 1)) : Int) := by
      rw [IntWalk.wrap64_in _ (by omega)]
      omega
    have hw : wrap64 ((i : Int) + 1) = ((i + 1 : Nat) : Int) := by rw [IntWalk.wrap64_in _ (by omega)]; omega
    rw [PJ.path_Join.l0, if_pos (by omega), if_pos (by omega), if_pos (by omega), rd_at xs i hib, hw, hw2]
    exact ih (i + 1) (by omega) k (by omega)
theorem pjoin_f (xs : List ByteArray) (hl : xs.length ≤ 4096) (hp : ∀ x ∈ xs, x.size ≤ 140737488355328) (k : Nat) (hk : 2 * xs.length + 3 ≤ k) : PJ.path_Join.f k xs = some (joinR xs) := by
  have hw : wrap64 ((xs.length : Int) - 1) = (xs.length : Int) - 1 + (tot (xs.take 0) : Int) := by rw [IntWalk.wrap64_in _ (by omega), List.take_zero]; simp [tot]
  unfold PJ.path_Join.f
  rw [hw]
  exact pjoin_l0 xs hl hp xs.length 0 (by omega) k (by omega)
/-! The reference's. -/
theorem rjoin_l1 (xs : List ByteArray) (acc : ByteArray) (h1 : xs.length ≤ 4096) (hp : ∀ x ∈ xs, x.size ≤ 128) (m : Nat) : ∀ i : Nat, i + m = xs.length → ∀ k, m + 200 ≤ k →
    PJ.ciboriumref15_Join.l1 k xs acc (i : Int) = some (if (xs.drop i).all segB = true then (if xs.length = 0 then (⟨#[]⟩, 150) else (acc, 0)) else (⟨#[]⟩, 150)) := by
  induction m with
  | zero =>
    intro i hi k hk
    obtain ⟨k, rfl⟩ : ∃ k', k = k' + 1 := ⟨k - 1, by omega⟩
    rw [PJ.ciboriumref15_Join.l1, if_neg (by omega), List.drop_eq_nil_of_le (by omega), List.all_nil, if_pos (rfl : true = true)]
    by_cases h0 : xs.length = 0
    · rw [if_pos (by omega), if_pos h0]
    · rw [if_neg (by omega), if_neg h0]
  | succ m ih =>
    intro i hi k hk
    obtain ⟨k, rfl⟩ : ∃ k', k = k' + 1 := ⟨k - 1, by omega⟩
    have hib : i < xs.length := by omega
    have hx := hp _ (List.getElem_mem hib)
    have hs : PJ.ciboriumref15_segment.f k xs[i] = some (segB xs[i]) := segment_f xs[i] (by omega) k (by omega)
    have hw : wrap64 ((i : Int) + 1) = ((i + 1 : Nat) : Int) := by rw [IntWalk.wrap64_in _ (by omega)]; omega
    rw [PJ.ciboriumref15_Join.l1, if_pos (by omega), if_pos (by omega), rd_at xs i hib, hs, Option.bind_some, hw, ih (i + 1) (by omega) k (by omega), List.drop_eq_getElem_cons hib, List.all_cons]
    cases segB xs[i] with
    | true => rw [if_pos rfl, Bool.true_and]
    | false => rw [if_neg (by decide), Bool.false_and, if_neg (by decide)]
theorem size_take (xs : List ByteArray) (i : Nat) : (joinB (xs.take i)).size ≤ xs.length + tot xs := by
  have h1 := tot_app (xs.take i) (xs.drop i)
  rw [List.take_append_drop] at h1
  have h2 : (xs.take i).length ≤ xs.length := by rw [List.length_take]; omega
  cases hx : xs.take i with
  | nil => show 0 ≤ _; omega
  | cons x l =>
    rw [join_size, ← hx]
    rw [hx, List.length_cons] at h2
    omega
theorem join_take (xs : List ByteArray) (i : Nat) (hi : i < xs.length) (h0 : i ≠ 0) : joinB (xs.take (i + 1)) = (joinB (xs.take i) ++ (⟨#[47]⟩ : ByteArray)) ++ xs[i] := by
  rw [List.take_succ_eq_append_getElem hi]
  cases hx : xs.take i with
  | nil =>
    have := congrArg List.length hx
    rw [List.length_take, List.length_nil] at this
    omega
  | cons x l => exact join_snoc x l _
theorem big_le (n : Nat) (h : n ≤ 1000000000000000000) : n ≤ 9223372036854775807 := Nat.le_trans h (by decide)
theorem rjoin_l0 (xs : List ByteArray) (hl : xs.length ≤ 16) (hp : ∀ x ∈ xs, x.size ≤ 140737488355328) (m : Nat) : ∀ i : Nat, i + m = xs.length → ∀ k, m + xs.length + 201 ≤ k →
    PJ.ciboriumref15_Join.l0 k xs (joinB (xs.take i)) (i : Int) = some (joinR xs) := by
  have hT := tot_le xs hp
  have hT2 : tot xs ≤ 16 * 140737488355328 := Nat.le_trans hT (Nat.mul_le_mul_right _ hl)
  clear hT
  induction m with
  | zero =>
    intro i hi k hk
    obtain ⟨k, rfl⟩ : ∃ k', k = k' + 1 := ⟨k - 1, by omega⟩
    rw [PJ.ciboriumref15_Join.l0, if_neg (by omega), List.take_of_length_le (by omega)]
    unfold joinR
    rw [if_neg (show ¬ 16 < xs.length by omega)]
    by_cases h128 : 128 < (joinB xs).size
    · rw [if_pos (by omega), if_pos h128]
    · have hp8 : ∀ x ∈ xs, x.size ≤ 128 := by
        intro x hx
        have h1 := tot_mem xs x hx
        cases xs with
        | nil => simp at hx
        | cons y l =>
          rw [join_size] at h128
          omega
      rw [if_neg (by omega), if_neg h128]
      have := rjoin_l1 xs (joinB xs) (by omega) hp8 xs.length 0 (by omega) k (by omega)
      rw [List.drop_zero] at this
      exact this
  | succ m ih =>
    intro i hi k hk
    obtain ⟨k, rfl⟩ : ∃ k', k = k' + 1 := ⟨k - 1, by omega⟩
    have hib : i < xs.length := by omega
    have hs := size_take xs i
    have hx := hp _ (List.getElem_mem hib)
    have hA := big_le ((joinB (xs.take i)).size + 1) (by omega)
    have hC := big_le ((joinB (xs.take i)).size + xs[i].size) (by omega)
    have hB := big_le ((joinB (xs.take i) ++ (⟨#[47]⟩ : ByteArray)).size + xs[i].size) (by rw [ByteArray.size_append, sz47]; omega)
    have hw : wrap64 ((i : Int) + 1) = ((i + 1 : Nat) : Int) := by rw [IntWalk.wrap64_in _ (by omega)]; omega
    rw [PJ.ciboriumref15_Join.l0, if_pos (Int.ofNat_lt.2 hib), rd_at xs i hib, hw]
    by_cases h0 : i = 0
    · subst h0
      rw [if_neg (by decide), if_pos (by decide), if_pos hC]
      have := ih 1 (by omega) k (by omega)
      rw [show xs.take 1 = [xs[0]] by rw [List.take_succ_eq_append_getElem hib]; rfl] at this
      rw [List.take_zero, show joinB [] = (⟨#[]⟩ : ByteArray) from rfl, empty_app]
      exact this
    · rw [if_pos (by omega), if_pos hA, if_pos (by omega), if_pos hB, ← join_take xs i hib h0]
      exact ih (i + 1) (by omega) k (by omega)
theorem rjoin_f (xs : List ByteArray) (hp : ∀ x ∈ xs, x.size ≤ 140737488355328) (k : Nat) (hk : 300 ≤ k) : PJ.ciboriumref15_Join.f k xs = some (joinR xs) := by
  unfold PJ.ciboriumref15_Join.f
  by_cases h : 16 < xs.length
  · rw [if_pos (by omega)]
    unfold joinR
    rw [if_pos h]
  · rw [if_neg (by omega)]
    exact rjoin_l0 xs (by omega) hp xs.length 0 (by omega) k (by omega)
end Go.Proofs.YtilhpgjohpekkaaDoor.PathPure
