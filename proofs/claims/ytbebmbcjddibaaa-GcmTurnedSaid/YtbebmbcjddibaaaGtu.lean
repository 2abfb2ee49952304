/- What is said here: what an argument that is a Turn is. -/
import Derived.Test.YtbebmbcjddibaaaRows
import Derived.Test.YtbebmbcjddibaaaGarg
import Derived.Test.YtbebmbcjddibaaaGp
import Derived.WalkKit
import Derived.ProofKit
import Derived.OpenShut
import Derived.ShutString
import Derived.ChangeOld
import Derived.Below
import Derived.SizedLaws
namespace Go.Proofs.Ytbebmbcjddibaaa.Aes
open Go.ChangeShapes Go.WideShapes Go.ChangeAt Go.RowKit
set_option linter.unusedVariables false
open Gf Gfi Poly
theorem cells_tu : Try.prog.cellsOf 39 = 18 := by kernel_rfl
theorem wfi {n : Int} (h : (Lit.int .i64 n).wf = true) : -9223372036854775808 ≤ n ∧ n ≤ 9223372036854775807 := by
  have h : IntKind.i64.min ≤ n ∧ n ≤ IntKind.i64.max := by simpa [Lit.wf] using h
  exact h
theorem tu_arg {H : Type} {enc : TypeId × Value → H} {W : World} {r : Reach} {base : Nat} {v : Value} {d : DataW H} {p : List MemPlace}
    (hv : Value.okWide Try.prog W r base 39 v) (h : DataW.Trod enc Try.prog W 0 (fun _ => true) true 39 v d p) :
    ∃ where_ at_ mask, v = .agg (Gcm.tuC where_ at_ mask) ∧ (-9223372036854775808 ≤ where_ ∧ where_ ≤ 9223372036854775807) ∧ (-9223372036854775808 ≤ at_ ∧ at_ ≤ 9223372036854775807) := by
  obtain ⟨cs0, rfl, hcs⟩ := okWide_struct Try.underlying39 hv
  obtain ⟨fuel, hf⟩ := h
  obtain ⟨l⟩ := cs0
  have hf' : DataW.trod enc Try.prog W 0 (fun _ => true) true fuel 39 l = some (d, p) := hf
  obtain ⟨xs, n, _, _, hl, hxl, hx⟩ := DataW.trod_struct Try.underlying39 hf'
  rw [cells_tu] at hl
  have hxl4 : xs.length = 3 := hxl
  have g0 := hx 0 _ rfl
  have g1 := hx 1 _ rfl
  have g2 := hx 2 _ rfl
  have h0 : DataW.trod enc Try.prog W 0 (fun _ => true) true n 3 ((l.drop 0).take (Try.prog.cellsOf 3)) = some (xs[0]'(by omega)) := by rw [← List.getElem?_eq_getElem]; exact g0
  have h1 : DataW.trod enc Try.prog W 0 (fun _ => true) true n 3 ((l.drop 1).take (Try.prog.cellsOf 3)) = some (xs[1]'(by omega)) := by rw [← List.getElem?_eq_getElem]; exact g1
  have h2 : DataW.trod enc Try.prog W 0 (fun _ => true) true n 37 ((l.drop 2).take (Try.prog.cellsOf 37)) = some (xs[2]'(by omega)) := by rw [← List.getElem?_eq_getElem]; exact g2
  rw [cells_i, one_cell (by omega)] at h0 h1
  rw [cells_m] at h2
  obtain ⟨mask, hk⟩ := arr_cells Try.underlying37 (by rw [List.length_take, List.length_drop]; omega) h2
  obtain ⟨z0, e0, _, w0⟩ := DataW.trod_int Try.underlying3 h0
  obtain ⟨z1, e1, _, w1⟩ := DataW.trod_int Try.underlying3 h1
  have e0 : l[0] = .int .i64 z0 := by simpa using e0
  have e1 : l[1] = .int .i64 z1 := by simpa using e1
  refine ⟨z0, z1, mask, ?_, wfi w0, wfi w1⟩
  congr 1
  unfold Gcm.tuC
  rw [← hk, ← e0, ← e1]
  have e : l = [l[0]'(by omega), l[1]'(by omega)] ++ (l.drop 2).take 16 := by
    apply List.ext_getElem?
    intro i
    by_cases i1 : i < 2
    · have : i = 0 ∨ i = 1 := by omega
      rcases this with rfl | rfl
      · rw [List.getElem?_eq_getElem (by omega)]; rfl
      · rw [List.getElem?_eq_getElem (by omega)]; rfl
    · rw [List.getElem?_append_right (by simp; omega), List.length_cons, List.length_singleton]
      by_cases i2 : i < 18
      · rw [List.getElem?_take_of_lt (by omega), List.getElem?_drop]
        congr 1
        omega
      · rw [List.getElem?_eq_none (by omega), List.getElem?_eq_none (by simp; omega)]
  conv => lhs; rw [e]
  simp
end Go.Proofs.Ytbebmbcjddibaaa.Aes
