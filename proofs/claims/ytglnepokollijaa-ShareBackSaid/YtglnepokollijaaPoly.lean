/- What is said here: polynomials over the field of 256 elements, and their values. It speaks of no program. -/
import Derived.Test.YtglnepokollijaaGfi
namespace Go.Proofs.Ytglnepokollijaa.Poly
set_option linter.unusedVariables false
set_option linter.unusedSimpArgs false
open Go.Proofs.Ytglnepokollijaa.Gf Go.Proofs.Ytglnepokollijaa.Gfi

/-- A polynomial's value: coefficients from that of 1 on. -/
def ev (x : B) : List B → B
  | [] => 0#8
  | c :: r => c ^^^ mul x (ev x r)
/-- Bytes as elements. -/
def ints (l : List B) : List Int := l.map ofB
theorem exists_ints (l : List Int) (h : ∀ x ∈ l, (Lit.int .u8 x).wf = true) : ∃ bs, l = ints bs := by
  induction l with
  | nil => exact ⟨[], rfl⟩
  | cons x l ih =>
    obtain ⟨bs, rfl⟩ := ih (fun y hy => h y (List.mem_cons_of_mem _ hy))
    obtain ⟨b, rfl⟩ := B_of_wf (h x List.mem_cons_self)
    exact ⟨b :: bs, rfl⟩
theorem ints_length (l : List B) : (ints l).length = l.length := by simp [ints]
theorem ints_getD (l : List B) (i : Nat) : (ints l).getD i 0 = ofB (l.getD i 0#8) := by
  simp only [ints, List.getD_eq_getElem?_getD, List.getElem?_map]
  cases l[i]? <;> rfl
theorem drop_step (l : List B) (i : Nat) (h : i < l.length) : l.drop i = l.getD i 0#8 :: l.drop (i + 1) := by
  rw [List.drop_eq_getElem_cons h, List.getD_eq_getElem?_getD, List.getElem?_eq_getElem h]
  rfl
end Go.Proofs.Ytglnepokollijaa.Poly
