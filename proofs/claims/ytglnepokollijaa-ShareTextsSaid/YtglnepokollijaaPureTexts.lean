/- What is said here: a share's text, both ways told; what Read makes of bytes: as lists alone. -/
import Derived.Test.YtglnepokollijaaPTx1
import Derived.Test.YtglnepokollijaaPTx5
import Derived.Test.YtglnepokollijaaPureUnhex
namespace Go.Proofs.Ytglnepokollijaa.PureTexts
set_option linter.unusedVariables false
set_option linter.unusedSimpArgs false
open Go.RowKit Go.Proofs.Ytglnepokollijaa.PT Go.Proofs.YtglnepokollijaaW.PrintWords Go.Proofs.YtglnepokollijaaW.PrintLast
open Hex PureOne

theorem str_app (a b : List Int) : strOfNums a ++ strOfNums b = strOfNums (a ++ b) := by
  apply ByteArray.ext
  apply Array.ext'
  rw [ByteArray.data_append, Array.toList_append, strOfNums_data, strOfNums_data, strOfNums_data, List.map_append]
theorem hexL_cons (x : Int) (l : List Int) : hexL [x] ++ hexL l = hexL (x :: l) := by simp [hexL]
/-- The text of a share. -/
def txt (x : Int) (l : List Int) : ByteArray := strOfNums (hexL (x :: l))
theorem txt_size (x : Int) (l : List Int) : (txt x l).size = 2 * l.length + 2 := by
  unfold txt
  rw [str_size, hexL_length, List.length_cons]
  omega
theorem text_f (x : Int) (l : List Int) (hx : 0 ≤ x ∧ x < 256) (hl : ∀ y ∈ l, 0 ≤ y ∧ y < 256) (hn : l.length ≤ 1000000) : share_Text.f x l = some (txt x l) := by
  have h1 : octet_Hex.f ([x] : List Int) = some (strOfNums (hexL [x])) := by
    unfold octet_Hex.f
    rw [if_pos ⟨by simp, fun y hy => by rw [List.mem_singleton.1 hy]; exact hx⟩]
  have h2 : octet_Hex.f l = some (strOfNums (hexL l)) := by
    unfold octet_Hex.f
    rw [if_pos ⟨by omega, hl⟩]
  unfold share_Text.f
  rw [h1, h2, Option.bind_some, Option.bind_some, str_app, hexL_cons, str_size, str_size, hexL_length, hexL_length, if_pos (by rw [List.length_singleton]; omega)]
  rfl
theorem refText_f (x : Int) (l : List Int) (hx : 0 ≤ x ∧ x < 256) (hl : ∀ y ∈ l, 0 ≤ y ∧ y < 256) (hn : l.length ≤ 100000) : ciboriumref04_Text.f (l.length + 10) x l = some (txt x l) := by
  have h := PureHex.refHex (x :: l) (fun y hy => by
    rcases List.mem_cons.1 hy with rfl | hy
    · exact hx
    · exact hl y hy) (by rw [List.length_cons]; omega) (x :: l).length 0 (by omega) (l.length + 10) (by rw [List.length_cons]; omega)
  have h2 : ciboriumref01_Hex.f (l.length + 10) (x :: l) = some (txt x l) := h
  unfold ciboriumref04_Text.f
  rw [Option.bind_some, if_pos (by rw [List.length_singleton]; omega)]
  show ((ciboriumref01_Hex.f (l.length + 10) (x :: l)).bind fun t => some t) = _
  rw [h2]
  rfl
/-- What Read makes of what Unhex told. -/
def readX (l : List Int) (e : Int) : Int := if e ≠ 0 then 0 else if l.length = 0 then 0 else if l.getD 0 0 = 0 then 0 else if 1025 < l.length then 0 else l.getD 0 0
def readY (l : List Int) (e : Int) : List Int := if e ≠ 0 then [] else if l.length = 0 then [] else if l.getD 0 0 = 0 then [] else if 1025 < l.length then [] else l.drop 1
def readE (l : List Int) (e : Int) : Int := if e ≠ 0 then e else if l.length = 0 then 10 else if l.getD 0 0 = 0 then 40 else if 1025 < l.length then 3 else 0
theorem read_ok (l : List Int) (e : Int) (h : readE l e = 0) : e = 0 ∧ readX l e :: readY l e = l := by
  unfold readE at h
  split at h
  · rename_i h1; exact absurd h h1
  · rename_i h1
    have he : e = 0 := Decidable.not_not.1 h1
    refine ⟨he, ?_⟩
    unfold readX readY
    rw [if_neg h1, if_neg h1]
    split at h
    · cases h
    · rename_i h2
      rw [if_neg h2, if_neg h2]
      split at h
      · cases h
      · rename_i h3
        rw [if_neg h3, if_neg h3]
        split at h
        · cases h
        · rename_i h4
          rw [if_neg h4, if_neg h4]
          match l, h2 with
          | a :: l, _ => rfl
          | [], h2 => exact absurd rfl h2
theorem readX_range (l : List Int) (e : Int) (hl : ∀ y ∈ l, 0 ≤ y ∧ y < 256) : 0 ≤ readX l e ∧ readX l e < 256 := by
  unfold readX
  split
  · omega
  · split
    · omega
    · rename_i h2
      split
      · omega
      · split
        · omega
        · match l, h2 with
          | a :: l, _ => exact hl a List.mem_cons_self
          | [], h2 => exact absurd rfl h2
theorem readY_range (l : List Int) (e : Int) (hl : ∀ y ∈ l, 0 ≤ y ∧ y < 256) : ∀ y ∈ readY l e, 0 ≤ y ∧ y < 256 := by
  unfold readY
  intro y hy
  split at hy
  · cases hy
  · split at hy
    · cases hy
    · split at hy
      · cases hy
      · split at hy
        · cases hy
        · exact hl y (List.mem_of_mem_drop hy)
theorem readY_len (l : List Int) (e : Int) : (readY l e).length ≤ 1024 := by
  unfold readY
  split
  · decide
  · split
    · decide
    · split
      · decide
      · split
        · decide
        · rw [List.length_drop]; omega
theorem read_back_bad (x : Int) (l : List Int) (h : x = 0 ∨ 1024 < l.length) : readE (x :: l) 0 ≠ 0 := by
  unfold readE
  rw [if_neg (by decide), if_neg (by simp)]
  split
  · decide
  · rename_i h1
    rw [if_pos]
    · decide
    · rw [List.length_cons]
      rcases h with h | h
      · exact absurd h h1
      · omega
theorem read_back (x : Int) (l : List Int) (hx : x ≠ 0) (hl : l.length ≤ 1024) : readE (x :: l) 0 = 0 ∧ readX (x :: l) 0 = x ∧ readY (x :: l) 0 = l := by
  have h2 : ¬ 1025 < (x :: l).length := by rw [List.length_cons]; omega
  have h1 : ¬ (x :: l).getD 0 0 = 0 := hx
  have h3 : ¬ (x :: l).length = 0 := by simp
  have h0 : ¬ (0 : Int) ≠ 0 := by decide
  unfold readE readX readY
  rw [if_neg h0, if_neg h0, if_neg h0, if_neg h3, if_neg h3, if_neg h3, if_neg h1, if_neg h1, if_neg h1, if_neg h2, if_neg h2, if_neg h2]
  exact ⟨rfl, rfl, rfl⟩
end Go.Proofs.Ytglnepokollijaa.PureTexts
