/- What is said here: what path.Match tells of two texts. -/
import Derived.Test.YtilhpgjohpekkaaDoorPathPure2
namespace Go.Proofs.YtilhpgjohpekkaaDoor.PathPure
set_option linter.unusedVariables false
set_option linter.unusedSimpArgs false
open Go.RowKit Go.Proofs.YtilhpgjohpekkaaDoorW.PrintWords Go.Proofs.YtilhpgjohpekkaaDoorW.PrintLast Go.Proofs.YtilhpgjohpekkaaDoorW.PrintMore
open PLib PSplit

/-- Texts, a slash between each two. -/
def joinB : List ByteArray → ByteArray
  | [] => ByteArray.empty
  | x :: l => l.foldl (fun a y => (a ++ (⟨#[47]⟩ : ByteArray)) ++ y) x
theorem app_list (a b : ByteArray) : (a ++ b).data.toList = a.data.toList ++ b.data.toList := by
  rw [ByteArray.data_append, Array.toList_append]
theorem fold_list (l : List (List UInt8)) : ∀ a : ByteArray, ((l.map txt).foldl (fun a y => (a ++ (⟨#[47]⟩ : ByteArray)) ++ y) a).data.toList = l.foldl (fun a y => (a ++ [47]) ++ y) a.data.toList := by
  induction l with
  | nil => intro a; rfl
  | cons x l ih =>
    intro a
    rw [List.map_cons, List.foldl_cons, ih, List.foldl_cons, app_list, app_list, txt_list]
theorem fold_front (l : List (List UInt8)) : ∀ a b : List UInt8, l.foldl (fun a y => (a ++ [47]) ++ y) (a ++ b) = a ++ l.foldl (fun a y => (a ++ [47]) ++ y) b := by
  induction l with
  | nil => intro a b; rfl
  | cons x l ih =>
    intro a b
    rw [List.foldl_cons, List.foldl_cons, ← ih, List.append_assoc, List.append_assoc, List.append_assoc]
theorem segs_join (l : List UInt8) : ∃ h t, segs 47 l = h :: t ∧ t.foldl (fun a y => (a ++ [47]) ++ y) h = l := by
  induction l with
  | nil => exact ⟨[], [], rfl, rfl⟩
  | cons x l ih =>
    obtain ⟨h, t, e, j⟩ := ih
    rw [segs]
    by_cases hx : x = 47
    · rw [if_pos hx, e]
      refine ⟨[], h :: t, rfl, ?_⟩
      rw [List.foldl_cons, fold_front, j, hx]
      rfl
    · rw [if_neg hx, e]
      refine ⟨x :: h, t, rfl, ?_⟩
      rw [show x :: h = [x] ++ h from rfl, fold_front, j]
      rfl
theorem join_pieces (s : ByteArray) : joinB (pieces 47 s) = s := by
  obtain ⟨h, t, e, j⟩ := segs_join s.data.toList
  unfold pieces
  rw [e, List.map_cons, joinB]
  apply ByteArray.ext
  apply Array.toList_inj.1
  rw [fold_list, txt_list, j]

/-- Does a text begin with another one? -/
def preB (q h : ByteArray) : Bool := decide (h.size ≤ q.size) && ((q.extract 0 h.size).toList == h.toList)
theorem hasPrefix_f (q h : ByteArray) : PC.strings_HasPrefix.f q h = some (preB q h) := by
  unfold PC.strings_HasPrefix.f PC.stringslite_HasPrefix.f preB
  by_cases hs : h.size ≤ q.size
  · rw [if_pos (by omega), if_pos (by omega), if_pos (by omega), Option.bind_some, Int.toNat_natCast, decide_eq_true hs, Bool.true_and]
  · rw [if_neg (by omega), Option.bind_some, decide_eq_false hs, Bool.false_and]
/-- Does a list of a pattern's pieces match a list of a path's? -/
def mt : List ByteArray → List ByteArray → Bool
  | [], M => M.isEmpty
  | x :: L, M => match M with
    | [] => false
    | m :: M' => if (L.isEmpty && starB x) = true then preB (joinB (m :: M')) (x.extract 0 (x.size - 1)) else (decide (x.toList = [43]) || decide (x.toList = m.toList)) && mt L M'
theorem mt_cons (x : ByteArray) (L : List ByteArray) (m : ByteArray) (M' : List ByteArray) : mt (x :: L) (m :: M') = if (L.isEmpty && starB x) = true then preB (joinB (m :: M')) (x.extract 0 (x.size - 1)) else (decide (x.toList = [43]) || decide (x.toList = m.toList)) && mt L M' := rfl
theorem mt_nil (M : List ByteArray) : mt [] M = M.isEmpty := rfl
theorem mt_le (L : List ByteArray) : ∀ M, mt L M = true → L.length ≤ M.length := by
  induction L with
  | nil => intro M _; simp
  | cons x L ih =>
    intro M h
    cases M with
    | nil => simp [mt] at h
    | cons m M =>
      rw [mt] at h
      by_cases hs : (L.isEmpty && starB x) = true
      · rw [Bool.and_eq_true, List.isEmpty_iff] at hs
        rw [hs.1]; simp
      · rw [if_neg hs, Bool.and_eq_true] at h
        have := ih M h.2
        simp only [List.length_cons]; omega
theorem mt_eq (L : List ByteArray) : ∀ M, (∀ h : L ≠ [], starB (L.getLast h) = false) → mt L M = true → L.length = M.length := by
  induction L with
  | nil => intro M _ h; rw [mt, List.isEmpty_iff] at h; rw [h]
  | cons x L ih =>
    intro M hl h
    cases M with
    | nil => simp [mt] at h
    | cons m M =>
      rw [mt] at h
      by_cases hs : (L.isEmpty && starB x) = true
      · rw [Bool.and_eq_true, List.isEmpty_iff] at hs
        have := hl (by simp)
        obtain ⟨rfl, h2⟩ := hs
        rw [List.getLast_singleton, h2] at this
        exact absurd this (by decide)
      · rw [if_neg hs, Bool.and_eq_true] at h
        have := ih M (fun hn => by have := hl (by simp); rwa [List.getLast_cons hn] at this) h.2
        simp only [List.length_cons]; omega

/-! Cut, and the pieces. -/
theorem cut_segs (l : List UInt8) : segs 47 l = if (cutL 47 l).2.2 = true then (cutL 47 l).1 :: segs 47 (cutL 47 l).2.1 else [(cutL 47 l).1] := by
  induction l with
  | nil => rfl
  | cons x l ih =>
    rw [segs, cutL]
    by_cases hx : x = 47
    · rw [if_pos hx, if_pos hx, if_pos rfl]
    · rw [if_neg hx, if_neg hx, ih]
      by_cases hc : (cutL 47 l).2.2 = true
      · simp only [hc, if_true]
      · simp only [hc]; rfl
theorem cut_len (l : List UInt8) : (cutL 47 l).1.length + (cutL 47 l).2.1.length ≤ l.length := by
  induction l with
  | nil => exact Nat.le_refl _
  | cons x l ih =>
    rw [cutL]
    by_cases hx : x = 47
    · rw [if_pos hx]; simp
    · rw [if_neg hx]; simp only [List.length_cons]; omega
theorem cut_pieces (s : ByteArray) : pieces 47 s = if (cutS 47 s).2.2 = true then (cutS 47 s).1 :: pieces 47 (cutS 47 s).2.1 else [(cutS 47 s).1] := by
  unfold pieces cutS
  rw [cut_segs]
  dsimp only
  rw [txt_list]
  by_cases hc : (cutL 47 s.data.toList).2.2 = true
  · simp only [hc, if_true]; rfl
  · simp only [hc]; rfl
theorem cutS_size (s : ByteArray) : (cutS 47 s).1.size ≤ s.size ∧ (cutS 47 s).2.1.size ≤ s.size := by
  have := cut_len s.data.toList
  rw [← size_data] at this
  unfold cutS
  rw [txt_size, txt_size]
  omega
theorem cut_f (s : ByteArray) (hN : s.size ≤ 1000000) : PC.strings_Cut.f s ⟨#[47]⟩ = some (cutS 47 s) := by
  show cutF s ⟨#[47]⟩ = _
  unfold cutF
  show (if s.size ≤ _ then some (cutS 47 s) else none) = _
  rw [if_pos (by omega)]
theorem pieces_ne (s : ByteArray) : pieces 47 s ≠ [] := by
  unfold pieces
  intro h
  exact segs_ne 47 _ (List.map_eq_nil_iff.1 h)
/-- What stands ahead of a last piece's star. -/
theorem head_star (s : ByteArray) (hN : s.size ≤ 1000000) (h : starB s = true) : PC.path_head.f s = some (s.extract 0 (s.size - 1), true) := by
  have hh := h
  unfold starB at hh
  rw [Bool.and_eq_true, Bool.and_eq_true, decide_eq_true_eq, decide_eq_true_eq] at hh
  obtain ⟨h1, h2, h3⟩ := hh
  have e : PC.path_letters.f (s.extract 0 (s.size - 1)) = some (letS (s.extract 0 (s.size - 1))) := by
    show lettersF _ = _
    unfold lettersF
    rw [if_pos (by rw [ByteArray.size_extract]; omega)]
  unfold PC.path_head.f
  rw [show (⟨#[42]⟩ : ByteArray) = ⟨#[(42 : UInt8)]⟩ from rfl, cutSuffix_f s 42 hN, Option.bind_some, show ((42 : UInt8).toNat : Int) = 42 from rfl, if_pos (show s.size ≠ 0 ∧ bt s ((s.size - 1 : Nat) : Int) = 42 from And.intro h1 h2), if_pos rfl, e, Option.bind_some, h3]
/-- path.Match's rounds. -/
theorem pmatch_l (n : Nat) : ∀ (p q : ByteArray), p.size ≤ 1000000 → q.size ≤ 1000000 → (pieces 47 p).length ≤ n → ∀ k, 3 * n + 5 ≤ k → PC.path_Match.l0 k p q = some (mt (pieces 47 p) (pieces 47 q)) := by
  induction n with
  | zero =>
    intro p q _ _ h
    have := pieces_ne p
    exact absurd (List.eq_nil_of_length_eq_zero (by omega)) this
  | succ n ih =>
    intro p q hp hq hl k hk
    obtain ⟨k, rfl⟩ : ∃ k', k = k' + 3 := ⟨k - 3, by omega⟩
    have hps := cutS_size p
    have hqs := cutS_size q
    have hcp := cut_pieces p
    have hcq := cut_pieces q
    -- the rest behind a piece
    have hj2 : ∀ b (hb : b = (cutS 47 p).2.2), PC.path_Match.j2 (k + 2) q (cutS 47 p).1 (cutS 47 p).2.1 b = some ((decide ((cutS 47 p).1.toList = [43]) || decide ((cutS 47 p).1.toList = (cutS 47 q).1.toList)) && ((b == (cutS 47 q).2.2) && (if b = true then mt (pieces 47 (cutS 47 p).2.1) (pieces 47 (cutS 47 q).2.1) else true))) := by
      intro b hb
      have hj3 : ∀ c, PC.path_Match.j3 (k + 1) (cutS 47 p).2.1 b (cutS 47 q).2.1 c = some (!c && (if b = true then mt (pieces 47 (cutS 47 p).2.1) (pieces 47 (cutS 47 q).2.1) else true)) := by
        intro c
        rw [PC.path_Match.j3]
        cases c with
        | true => rw [if_pos rfl]; rfl
        | false =>
          rw [if_neg (by decide), Bool.not_false, Bool.true_and]
          by_cases hbt : b = true
          · rw [if_pos hbt, if_pos hbt]
            rw [← hb, if_pos hbt] at hcp
            exact ih _ _ (by omega) (by omega) (by rw [hcp, List.length_cons] at hl; omega) k (by omega)
          · rw [if_neg hbt, if_neg hbt]
      rw [PC.path_Match.j2, cut_f q hq, Option.bind_some, hj3, hj3]
      by_cases h43 : (cutS 47 p).1.toList = [43]
      · rw [if_pos h43, decide_eq_true h43, Bool.true_or, Bool.true_and]
        cases b <;> cases (cutS 47 q).2.2 <;> rfl
      · rw [if_neg h43, decide_eq_false h43, Bool.false_or]
        by_cases he : (cutS 47 p).1.toList = (cutS 47 q).1.toList
        · rw [if_pos he, decide_eq_true he, Bool.true_and]
          cases b <;> cases (cutS 47 q).2.2 <;> rfl
        · rw [if_neg he, decide_eq_false he, Bool.false_and]; rfl
    rw [PC.path_Match.l0, cut_f p hp, Option.bind_some, hj2 _ rfl]
    by_cases hm : (cutS 47 p).2.2 = true
    · rw [if_pos hm, if_pos hm, hcp, if_pos hm]
      have hne := pieces_ne (cutS 47 p).2.1
      have hie : (pieces 47 (cutS 47 p).2.1).isEmpty = false := by
        cases hx : pieces 47 (cutS 47 p).2.1 with
        | nil => exact absurd hx hne
        | cons a l => rfl
      rw [hcq]
      by_cases hd : (cutS 47 q).2.2 = true
      · rw [if_pos hd, mt_cons, hie, Bool.false_and, if_neg (by decide), hm, hd]
        rfl
      · have hd' : (cutS 47 q).2.2 = false := by simpa using hd
        have hmt : mt (pieces 47 (cutS 47 p).2.1) [] = false := by
          cases hx : pieces 47 (cutS 47 p).2.1 with
          | nil => exact absurd hx hne
          | cons a l => rfl
        rw [if_neg hd, mt_cons, hie, Bool.false_and, if_neg (by decide), hm, hd', hmt]
        simp
    · have hm' : (cutS 47 p).2.2 = false := by simpa using hm
      rw [if_neg hm] at hcp
      rw [if_neg hm, hcp]
      have hjq := join_pieces q
      rw [hcq] at hjq ⊢
      cases hst : starB (cutS 47 p).1 with
      | true =>
        rw [head_star _ (by omega) hst, Option.bind_some, if_pos rfl, hasPrefix_f, Option.bind_some]
        by_cases hd : (cutS 47 q).2.2 = true
        · rw [if_pos hd] at hjq ⊢
          rw [mt_cons, hst, if_pos (by rfl), hjq]
        · rw [if_neg hd] at hjq ⊢
          rw [mt_cons, hst, if_pos (by rfl), hjq]
      | false =>
        obtain ⟨hh, hhf⟩ := head_f (cutS 47 p).1 (by omega)
        rw [hhf, Option.bind_some, hst, if_neg (by simp), hm', if_neg (by decide : ¬ false = true)]
        by_cases hd : (cutS 47 q).2.2 = true
        · have hne := pieces_ne (cutS 47 q).2.1
          rw [if_pos hd, mt_cons, hst, Bool.and_false, if_neg (by decide : ¬ false = true), mt_nil, hd]
          cases hx : pieces 47 (cutS 47 q).2.1 with
          | nil => exact absurd hx hne
          | cons a l => simp
        · have hd' : (cutS 47 q).2.2 = false := by simpa using hd
          rw [if_neg hd, mt_cons, hst, Bool.and_false, if_neg (by decide : ¬ false = true), mt_nil, hd']
          simp
/-- What Match tells. -/
def matchR (p q : ByteArray) : Bool := decide (patR p = 0) && (decide ((splitR q).2 = 0) && mt (pieces 47 p) (pieces 47 q))
theorem pmatch_f (p q : ByteArray) (hp : p.size ≤ 1000000) (hq : q.size ≤ 1000000) (k : Nat) (hk : 600 ≤ k) : PC.path_Match.f k p q = some (matchR p q) := by
  obtain ⟨k, rfl⟩ : ∃ k', k = k' + 1 := ⟨k - 1, by omega⟩
  unfold PC.path_Match.f matchR
  rw [ppat_f p hp _ (by omega), Option.bind_some]
  by_cases h1 : patR p = 0
  · rw [if_pos h1, pcheck_f, Option.bind_some, decide_eq_true h1, Bool.true_and, PC.path_Match.j0]
    by_cases h2 : (splitR q).2 = 0
    · have hsz : p.size ≤ 128 := by
        apply small
        unfold patR at h1
        cases hL : longB p with
        | true => rw [hL, if_pos rfl] at h1; exact absurd h1 (by decide)
        | false => rfl
      have := pieces_len p
      rw [if_neg (by rw [h2]; decide), decide_eq_true h2, Bool.true_and]
      exact pmatch_l 130 p q hp hq (by omega) k (by omega)
    · rw [if_pos (by simpa using h2), decide_eq_false h2, Bool.false_and]
  · rw [if_neg h1, PC.path_Match.j0, if_pos rfl, decide_eq_false h1, Bool.false_and]
end Go.Proofs.YtilhpgjohpekkaaDoor.PathPure
