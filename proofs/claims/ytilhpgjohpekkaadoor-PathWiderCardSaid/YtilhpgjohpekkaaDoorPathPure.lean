/- What is said here: the reference's parts, segments and paths are the program's. -/
import Derived.Test.YtilhpgjohpekkaaDoorPCx
import Derived.Test.YtilhpgjohpekkaaDoorPSplit
namespace Go.Proofs.YtilhpgjohpekkaaDoor.PathPure
set_option linter.unusedVariables false
set_option linter.unusedSimpArgs false
open Go.RowKit Go.Proofs.YtilhpgjohpekkaaDoorW.PrintWords Go.Proofs.YtilhpgjohpekkaaDoorW.PrintLast Go.Proofs.YtilhpgjohpekkaaDoorW.PrintMore
open PLib PSplit

theorem bt_at (s : ByteArray) (i : Nat) (h : i < s.data.toList.length) : bt s (i : Int) = ((s.data.toList[i]).toNat : Int) := by
  have hs := size_data s
  unfold bt
  rw [dif_pos (by rw [Int.toNat_natCast]; omega)]
  simp only [Int.toNat_natCast]
  congr 2
theorem bt_eq (s : ByteArray) (i : Nat) (h : i < s.data.toList.length) (c : UInt8) : (bt s (i : Int) = (c.toNat : Int)) ↔ s.data.toList[i] = c := by
  rw [bt_at s i h]
  constructor
  · intro e
    exact UInt8.toNat_inj.1 (by omega)
  · intro e
    rw [e]
theorem segs_first (c : UInt8) (m : List UInt8) : ∀ (n : Nat) (h : n < m.length), (∀ j (hj : j < n), m[j]'(by omega) ≠ c) → m[n] = c → segs c m = m.take n :: segs c (m.drop (n + 1)) := by
  induction m with
  | nil => intro n h; simp at h
  | cons x m ih =>
    intro n h h1 h2
    cases n with
    | zero =>
      have : x = c := h2
      rw [segs, if_pos this]
      rfl
    | succ n =>
      have hx : x ≠ c := h1 0 (by omega)
      have := ih n (by simpa using h) (fun j hj => h1 (j + 1) (by omega)) h2
      rw [segs, if_neg hx, this]
      rfl
theorem segs_none (c : UInt8) (m : List UInt8) (h : ∀ x ∈ m, x ≠ c) : segs c m = [m] := by
  induction m with
  | nil => rfl
  | cons x m ih =>
    rw [segs, if_neg (h x (by simp)), ih (fun y hy => h y (by simp [hy]))]

/-- The reference's parts. -/
theorem parts_l (s : ByteArray) (hN : s.size ≤ 1000000) (m : Nat) : ∀ (i f : Nat) (acc : List ByteArray), i + m = s.size → f ≤ i → acc.length ≤ i → (∀ j (h1 : f ≤ j) (h2 : j < i) (h3 : j < s.data.toList.length), s.data.toList[j] ≠ 47) → ∀ k, m + 1 ≤ k →
    PC.ciboriumref15_parts.l0 k s acc (f : Int) (i : Int) = some (acc ++ (segs 47 (s.data.toList.drop f)).map txt) := by
  have hs := size_data s
  induction m with
  | zero =>
    intro i f acc hi hf ha hn k hk
    obtain ⟨k, rfl⟩ : ∃ k', k = k' + 1 := ⟨k - 1, by omega⟩
    rw [PC.ciboriumref15_parts.l0, if_neg (by omega), if_pos (by omega), if_pos (by omega), if_pos (by omega)]
    rw [segs_none 47 _ (fun x hx => by
      obtain ⟨j, hj, rfl⟩ := List.mem_iff_getElem.1 hx
      rw [List.getElem_drop]
      rw [List.length_drop] at hj
      exact hn (f + j) (by omega) (by omega) (by omega))]
    rw [Int.toNat_natCast, extract_txt, hs, List.take_length]
    rfl
  | succ m ih =>
    intro i f acc hi hf ha hn k hk
    obtain ⟨k, rfl⟩ : ∃ k', k = k' + 1 := ⟨k - 1, by omega⟩
    have hil : i < s.data.toList.length := by omega
    have hw : wrap64 ((i : Int) + 1) = ((i + 1 : Nat) : Int) := by rw [IntWalk.wrap64_in _ (by omega)]; omega
    have hb := bt_eq s i hil 47
    rw [show ((47 : UInt8).toNat : Int) = 47 from rfl] at hb
    rw [PC.ciboriumref15_parts.l0, if_pos (by omega), if_pos (by omega)]
    by_cases h47 : s.data.toList[i] = 47
    · rw [if_pos (hb.2 h47), if_pos (by omega), if_pos (by omega), if_pos (by omega), if_pos (by omega), hw, ih (i + 1) (i + 1) _ (by omega) (Nat.le_refl _) (by simp; omega) (fun j h1 h2 => by omega) k (by omega)]
      have hf1 := segs_first 47 (s.data.toList.drop f) (i - f) (by rw [List.length_drop]; omega) (fun j hj => by rw [List.getElem_drop]; exact hn (f + j) (by omega) (by omega) (by omega)) (by rw [List.getElem_drop]; simp only [show f + (i - f) = i by omega]; exact h47)
      rw [hf1, List.drop_drop, show f + (i - f + 1) = i + 1 by omega, List.map_cons, List.append_assoc, Int.toNat_natCast, Int.toNat_natCast, extract_txt, List.drop_take]
      rfl
    · rw [if_neg (fun e => h47 (hb.1 e)), hw]
      exact ih (i + 1) f acc (by omega) (by omega) (by omega) (fun j h1 h2 h3 => by
        rcases Nat.lt_or_ge j i with h | h
        · exact hn j h1 h h3
        · obtain rfl : j = i := by omega
          exact h47) k (by omega)
theorem parts_f (s : ByteArray) (hN : s.size ≤ 1000000) (k : Nat) (hk : s.size + 1 ≤ k) : PC.ciboriumref15_parts.f k s = some (pieces 47 s) := by
  have := parts_l s hN s.size 0 0 [] (by omega) (Nat.le_refl _) (by simp) (fun j h1 h2 => by omega) k hk
  unfold PC.ciboriumref15_parts.f
  exact this

theorem letter_f (x : Int) (h0 : 0 ≤ x) (h1 : x < 256) : PC.ciboriumref15_letter.f x = some (letB x) := by
  have h : ∀ n : Fin 256, PC.ciboriumref15_letter.f ((n.val : Nat) : Int) = some (letB ((n.val : Nat) : Int)) := by decide +kernel
  have := h ⟨x.toNat, by omega⟩
  simpa only [Int.toNat_of_nonneg h0] using this
theorem bytes_at (s : ByteArray) (i : Nat) (h : i < (bytesOf s).length) : bt s (i : Int) = (bytesOf s)[i] := by
  have hs := bytesOf_length s
  have hd := size_data s
  rw [bt_at s i (by omega)]
  simp only [bytesOf, List.getElem_map]
theorem letters_l (s : ByteArray) (hN : s.size ≤ 1000000) (m : Nat) : ∀ (i : Nat), i + m = s.size → ∀ k, m + 1 ≤ k → PC.ciboriumref15_letters.l0 k s (i : Int) = some (((bytesOf s).drop i).all letB && decide (s.size ≤ 32)) := by
  have hs := bytesOf_length s
  induction m with
  | zero =>
    intro i hi k hk
    obtain ⟨k, rfl⟩ : ∃ k', k = k' + 1 := ⟨k - 1, by omega⟩
    rw [PC.ciboriumref15_letters.l0, if_neg (by omega), List.drop_eq_nil_of_le (by omega)]
    congr 1
    rw [List.all_nil, Bool.true_and]
    congr 1
    exact propext (by omega)
  | succ m ih =>
    intro i hi k hk
    obtain ⟨k, rfl⟩ : ∃ k', k = k' + 1 := ⟨k - 1, by omega⟩
    have hib : i < (bytesOf s).length := by omega
    have hw : wrap64 ((i : Int) + 1) = ((i + 1 : Nat) : Int) := by rw [IntWalk.wrap64_in _ (by omega)]; omega
    have hr := bt_range s (i : Int)
    rw [PC.ciboriumref15_letters.l0, if_pos (by omega), if_pos (by omega), letter_f _ hr.1 (by omega), Option.bind_some, hw, ih (i + 1) (by omega) k (by omega), List.drop_eq_getElem_cons hib, List.all_cons, bytes_at s i hib]
    cases letB (bytesOf s)[i] with
    | false => rw [if_neg (by decide)]; rfl
    | true => rw [if_pos rfl, Bool.true_and]
theorem letters_f (s : ByteArray) (hN : s.size ≤ 1000000) (k : Nat) (hk : s.size + 1 ≤ k) : PC.ciboriumref15_letters.f k s = some (letS s) := by
  have := letters_l s hN s.size 0 (by omega) k hk
  unfold PC.ciboriumref15_letters.f letS
  exact this
theorem segment_f (s : ByteArray) (hN : s.size ≤ 1000000) (k : Nat) (hk : s.size + 1 ≤ k) : PC.ciboriumref15_segment.f k s = some (segB s) := by
  have h2 := seg_f s (by omega)
  unfold PA.path_segment.f at h2
  have e : PA.path_letters.f s = some (letS s) := by show lettersF s = _; unfold lettersF; rw [if_pos (by omega)]
  rw [e] at h2
  unfold PC.ciboriumref15_segment.f
  rw [letters_f s hN k hk]
  exact h2
theorem long_f (s : ByteArray) (k : Nat) (hk : 130 ≤ k) : PC.ciboriumref15_long.f k s = some (longB s) := by
  unfold PC.ciboriumref15_long.f longB
  by_cases h : 128 < s.size
  · rw [if_pos (by omega), decide_eq_true h]; rfl
  · rw [if_neg (by omega), parts_f s (by omega) k (by omega), decide_eq_false h, Bool.false_or, Option.bind_some]
    congr 1
    unfold pieces
    rw [Bool.eq_iff_iff, decide_eq_true_eq, decide_eq_true_eq, List.length_map, segs_len]
    omega
theorem rd_at (xs : List ByteArray) (i : Nat) (h : i < xs.length) : rdOf ByteArray.empty xs (i : Int) = xs[i] := by
  unfold rdOf
  rw [Int.toNat_natCast, List.getD_eq_getElem?_getD, List.getElem?_eq_getElem h]
  rfl
theorem check_l (ps : List ByteArray) (hl : ps.length ≤ 1000000) (hp : ∀ x ∈ ps, x.size ≤ 128) (m : Nat) : ∀ i : Nat, i + m = ps.length → ∀ k, m + 140 ≤ k → PC.ciboriumref15_Check.l0 k ps (i : Int) = some (if (ps.drop i).all segB = true then 0 else 150) := by
  induction m with
  | zero =>
    intro i hi k hk
    obtain ⟨k, rfl⟩ : ∃ k', k = k' + 1 := ⟨k - 1, by omega⟩
    rw [PC.ciboriumref15_Check.l0, if_neg (by omega), List.drop_eq_nil_of_le (by omega), if_pos (by rfl)]
  | succ m ih =>
    intro i hi k hk
    obtain ⟨k, rfl⟩ : ∃ k', k = k' + 1 := ⟨k - 1, by omega⟩
    have hib : i < ps.length := by omega
    have hw : wrap64 ((i : Int) + 1) = ((i + 1 : Nat) : Int) := by rw [IntWalk.wrap64_in _ (by omega)]; omega
    have hx := hp _ (List.getElem_mem hib)
    rw [PC.ciboriumref15_Check.l0, if_pos (by omega), if_pos (by omega), rd_at ps i hib, segment_f _ (by omega) k (by omega), Option.bind_some, hw, ih (i + 1) (by omega) k (by omega), List.drop_eq_getElem_cons hib, List.all_cons]
    cases segB ps[i] with
    | false => rw [if_neg (by decide), if_neg (by rw [Bool.false_and]; decide)]
    | true => rw [if_pos rfl, Bool.true_and]
theorem small (s : ByteArray) (h : longB s = false) : s.size ≤ 128 := by
  unfold longB at h
  rw [Bool.or_eq_false_iff, decide_eq_false_iff_not] at h
  omega
theorem pieces_len (s : ByteArray) : (pieces 47 s).length ≤ s.size + 1 := by
  have := count_le 47 s
  unfold pieces
  rw [List.length_map, segs_len]
  omega
theorem check_f (s : ByteArray) (k : Nat) (hk : 300 ≤ k) : PC.ciboriumref15_Check.f k s = some (splitR s).2 := by
  unfold PC.ciboriumref15_Check.f splitR
  rw [long_f s k (by omega), Option.bind_some]
  cases hL : longB s with
  | true => rw [if_pos rfl, if_pos rfl]
  | false =>
    have hsz := small s hL
    have hpl := pieces_len s
    rw [if_neg (by decide), if_neg (by decide), parts_f s (by omega) k (by omega), Option.bind_some]
    have := check_l (pieces 47 s) (by omega) (fun x hx => by have := piece_size 47 s x hx; omega) (pieces 47 s).length 0 (by omega) k (by omega)
    rw [List.drop_zero] at this
    rw [show (0 : Int) = ((0 : Nat) : Int) from rfl, this]
    split <;> rfl
theorem pcheck_f (s : ByteArray) : PC.path_Check.f s = some (splitR s).2 := rfl
theorem split_f (s : ByteArray) (k : Nat) (hk : 300 ≤ k) : PC.ciboriumref15_Split.f k s = some (splitR s) := by
  unfold PC.ciboriumref15_Split.f
  rw [check_f s k hk, Option.bind_some]
  unfold splitR
  cases hL : longB s with
  | true => rw [if_pos (rfl : true = true), if_neg (by decide)]
  | false =>
    have hsz := small s hL
    rw [if_neg (by decide : ¬ false = true)]
    by_cases ha : (pieces 47 s).all segB = true
    · rw [if_pos ha, if_pos rfl, parts_f s (by omega) k (by omega)]; rfl
    · rw [if_neg ha, if_neg (by decide)]
theorem eqtexts_l (ps : List ByteArray) (hl : ps.length ≤ 1000000) (m : Nat) : ∀ i : Nat, i + m = ps.length → ∀ k, m + 1 ≤ k → PC.ciboriumref00_EqTexts.l0 k ps ps (i : Int) = some true := by
  induction m with
  | zero =>
    intro i hi k hk
    obtain ⟨k, rfl⟩ : ∃ k', k = k' + 1 := ⟨k - 1, by omega⟩
    rw [PC.ciboriumref00_EqTexts.l0, if_neg (by omega)]
  | succ m ih =>
    intro i hi k hk
    obtain ⟨k, rfl⟩ : ∃ k', k = k' + 1 := ⟨k - 1, by omega⟩
    have hw : wrap64 ((i : Int) + 1) = ((i + 1 : Nat) : Int) := by rw [IntWalk.wrap64_in _ (by omega)]; omega
    rw [PC.ciboriumref00_EqTexts.l0, if_pos (by omega), if_pos (by omega), if_pos (by omega), if_pos rfl, hw]
    exact ih (i + 1) (by omega) k (by omega)
theorem eqtexts_f (ps : List ByteArray) (hl : ps.length ≤ 1000000) (k : Nat) (hk : ps.length + 1 ≤ k) : PC.ciboriumref00_EqTexts.f k ps ps = some true := by
  unfold PC.ciboriumref00_EqTexts.f
  rw [if_pos rfl]
  exact eqtexts_l ps hl ps.length 0 (by omega) k hk
theorem works_0 : PC.ciboriumlaw15_works.f 60 = some true := by decide +kernel
theorem works_f (k : Nat) (hk : 60 ≤ k) : PC.ciboriumlaw15_works.f k = some true := by
  obtain ⟨d, rfl⟩ : ∃ d, k = 60 + d := ⟨k - 60, by omega⟩
  clear hk
  induction d with
  | zero => exact works_0
  | succ d ih => exact PC.ciboriumlaw15_works.mono (60 + d) _ ih
end Go.Proofs.YtilhpgjohpekkaaDoor.PathPure
