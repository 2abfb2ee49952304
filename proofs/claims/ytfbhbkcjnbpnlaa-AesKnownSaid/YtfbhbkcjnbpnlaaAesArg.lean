/- What is said here: an argument that is an array of bytes is so many bytes. -/
import Derived.Test.YtfbhbkcjnbpnlaaRows
import Derived.Test.YtfbhbkcjnbpnlaaAes0
import Derived.WalkKit
import Derived.ProofKit
import Derived.OpenShut
import Derived.ShutString
import Derived.ChangeOld
import Derived.Below
import Derived.SizedLaws
namespace Go.Proofs.Ytfbhbkcjnbpnlaa.Aes
open Go.ChangeShapes Go.WideShapes Go.ChangeAt Go.RowKit
set_option linter.unusedVariables false
open Gf Gfi Poly
theorem cells_u8 : Try.prog.cellsOf 5 = 1 := by kernel_rfl
theorem okWide_arr {P : Program} {W : World} {r : Reach} {base n : Nat} {t e : TypeId} {v : Value} (ht : P.underlying t = some (.array n e)) (h : Value.okWide P W r base t v) : ∃ cs, v = .agg cs ∧ cs.size = P.cellsOf t := by
  simp only [Value.okWide, ht] at h
  obtain ⟨cs, h1, h2, _⟩ := h
  exact ⟨cs, h1, h2⟩
theorem arr_cells {H : Type} {enc : TypeId × Value → H} {W : World} {fuel n : Nat} {t : TypeId} {l : List Value} {x : DataW H × List MemPlace} (ht : Try.prog.underlying t = some (.array n 5)) (hn : l.length = n)
    (h : DataW.trod enc Try.prog W 0 (fun _ => true) true fuel t l = some x) : ∃ f : Nat → B, l.toArray = cB n f := by
  obtain ⟨xs, m, _, _, _, hxl, hx⟩ := DataW.trod_array ht h
  have hc : ∀ i, (hi : i < n) → ∃ z : Int, l[i]? = some (.int .u8 z) ∧ 0 ≤ z ∧ z < 256 := fun i hi => by
    have g := hx i hi
    rw [cells_u8, Nat.mul_one] at g
    have hil : i < l.length := by omega
    have e : (l.drop i).take 1 = [l[i]] := by
      rw [List.drop_eq_getElem_cons hil]
      rfl
    obtain ⟨y, hy⟩ : ∃ y, xs[i]? = some y := ⟨_, List.getElem?_eq_getElem (by omega)⟩
    rw [e, hy] at g
    obtain ⟨z, hz, _, hw⟩ := DataW.trod_int Try.underlying5 g
    have hz' : l[i] = .int .u8 z := by simpa using hz
    refine ⟨z, by rw [List.getElem?_eq_getElem hil, hz'], ?_⟩
    have h : IntKind.u8.min ≤ z ∧ z ≤ IntKind.u8.max := by simpa [Lit.wf] using hw
    have h2 : (0 : Int) ≤ z ∧ z ≤ 255 := h
    omega
  refine ⟨fun i => match l[i]? with
    | some v => toB (intOf v)
    | none => 0#8, ?_⟩
  apply Array.ext_getElem?
  intro i
  by_cases hi : i < n
  · obtain ⟨z, h1, h2, h3⟩ := hc i hi
    rw [cB_get n _ i hi, List.getElem?_toArray, h1]
    show some (Value.int .u8 z) = some (.int .u8 (ofB (toB z)))
    rw [ofB_toB h2 h3]
  · rw [Array.getElem?_eq_none (by simp; omega), Array.getElem?_eq_none (by rw [cB_size]; omega)]
theorem arr_arg {H : Type} {enc : TypeId × Value → H} {W : World} {r : Reach} {base n : Nat} {t : TypeId} {v : Value} {d : DataW H} {p : List MemPlace} (ht : Try.prog.underlying t = some (.array n 5)) (hs : Try.prog.cellsOf t = n)
    (hv : Value.okWide Try.prog W r base t v) (h : DataW.Trod enc Try.prog W 0 (fun _ => true) true t v d p) : ∃ f : Nat → B, v = .agg (cB n f) := by
  obtain ⟨cs, rfl, hcs⟩ := okWide_arr ht hv
  obtain ⟨fuel, hf⟩ := h
  obtain ⟨l⟩ := cs
  have hn : l.length = n := by rw [hs] at hcs; simpa using hcs
  have hf' : DataW.trod enc Try.prog W 0 (fun _ => true) true fuel t l = some (d, p) := hf
  obtain ⟨f, hl⟩ := arr_cells ht hn hf'
  exact ⟨f, by rw [← hl]⟩
end Go.Proofs.Ytfbhbkcjnbpnlaa.Aes
