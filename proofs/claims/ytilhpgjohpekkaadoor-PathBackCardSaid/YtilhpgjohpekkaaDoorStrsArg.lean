/- What is said here: a list of texts among the arguments, opened. -/
import Derived.Test.YtilhpgjohpekkaaDoorWWords
import Derived.SliceStrings
import Derived.SizedLaws
import Derived.Test.YtilhpgjohpekkaaDoorProg
namespace Go.Proofs.YtilhpgjohpekkaaDoor.StrsArg
open Go.ChangeShapes Go.WideShapes Go.RowKit
set_option linter.unusedVariables false
open Go.Proofs.YtilhpgjohpekkaaDoorW.PrintWords
theorem weightsAll_mem {H : Type} {P : Program} {e : TypeId} (l : List (DataW H)) : ∀ d ∈ l, ∀ n ∈ d.weights P e, n ∈ DataW.weightsAll P e l := by
  induction l with
  | nil => intro d h; simp at h
  | cons x l ih =>
    intro d h n hn
    rw [List.mem_cons] at h
    simp only [DataW.weightsAll, List.mem_append]
    rcases h with rfl | h
    · exact Or.inl hn
    · exact Or.inr (ih d h n hn)
theorem cells1 : Tryd.prog.cellsOf 9 = 1 := by kernel_rfl
/-- A []string that came in. -/
theorem strs_of {H : Type} {enc : TypeId × Value → H} {W : World} {sp : Nat → Bool} {n : Nat} {v : Value} {x : DataW H × List MemPlace} {ts : List TypeId} {ds : List (DataW H)} {j : Nat}
    (h : DataW.trod enc Tryd.prog W 0 sp true n 25 [v] = some x) (hsz : (DataW.weightsEach Tryd.prog ts ds).all (· ≤ reachBytes) = true) (ht : ts[j]? = some 25) (hd : ds[j]? = some x.1) :
    ∃ A c xs, v = .slice A (List.length xs) c ∧ Kd.C Kd.string W A xs.length xs ∧ (∀ x ∈ xs, x.size ≤ 140737488355328) ∧ xs.length ≤ c ∧ xs.length ≤ 140737488355328 := by
  rcases open_strings Tryd.underlying25 Tryd.underlying9 cells1 h with ⟨hcs, _⟩ | ⟨a, len, cap, ss, hcs, _, hl, hm, hz, hx, hcell, hss⟩
  · exact ⟨none, 0, [], by simpa using hcs, ⟨rfl, by simp, fun h => absurd h (by simp)⟩, by simp, by simp, by simp⟩
  · have hlm : len ≤ ss.length := by rw [hz]; split <;> omega
    have hlen : (ss.take len).length = len := by rw [List.length_take]; omega
    subst hx
    have hrow := sized_slice hsz ht hd Tryd.underlying25
    have hb16 : Tryd.prog.bytesOf 9 = 16 := by kernel_rfl
    rw [hb16] at hrow
    simp only [strs, List.length_map, hlen] at hrow
    have hlb : len ≤ 140737488355328 := by
      have : reachBytes ≤ 140737488355328 := by decide
      omega
    refine ⟨some a, cap, ss.take len, by rw [hlen]; simpa using hcs, ?_, fun s hs => ?_, by rw [hlen]; exact hl, by rw [hlen]; exact hlb⟩
    · refine Kd.C_of_reads (enc := Value.string) (d := ByteArray.empty) (h1 := fun _ => rfl) ⟨rfl, by omega, fun _ => ⟨a, rfl, fun i hi => ?_⟩⟩
      rw [hcell i (by omega)]
      congr 2
      rw [List.getD_eq_getElem?_getD, List.getD_eq_getElem?_getD, List.getElem?_take_of_lt (by omega)]
    · have hd2 : (DataW.lit (.string s.data.toList) : DataW H) ∈ strs (H := H) (ss.take len) := List.mem_map.2 ⟨s, hs, rfl⟩
      have h1 := weightsAll_mem (P := Tryd.prog) (e := 9) _ _ hd2 s.data.toList.length (by simp [DataW.weights])
      have h2 : s.data.toList.length ∈ (DataW.slice (strs (ss.take len)) (strs (ss.drop len)) : DataW H).weights Tryd.prog 25 := by
        simp only [DataW.weights, Tryd.underlying25, List.mem_cons, List.mem_append]
        exact Or.inr (Or.inl h1)
      have h3 := List.all_eq_true.1 hsz _ (DataW.weights_mem_each ht hd _ h2)
      have h4 : s.data.toList.length ≤ reachBytes := by simpa using h3
      have h5 : s.size = s.data.toList.length := by rw [Array.length_toList]; rfl
      have : reachBytes ≤ 140737488355328 := by decide
      omega
end Go.Proofs.YtilhpgjohpekkaaDoor.StrsArg
