/- What is said here: what the arguments of gcm's laws are: arrays of bytes, texts, a Sealing, a Turn. -/
import Derived.Test.YtbebmbcjddibaaaRows
import Derived.Test.YtbebmbcjddibaaaGm2
import Derived.WalkKit
import Derived.ProofKit
import Derived.OpenShut
import Derived.ShutString
import Derived.ChangeOld
import Derived.Below
import Derived.SizedLaws
namespace Go.Proofs.Ytbebmbcjddibaaa.Aes
open Go.ChangeShapes Go.WideShapes Go.ChangeAt Go.RowKit
set_option linter.unusedVariables false
open Gf Gfi Poly
theorem cells_u8 : Try.prog.cellsOf 5 = 1 := by kernel_rfl
theorem okWide_arr {P : Program} {W : World} {r : Reach} {base n : Nat} {t e : TypeId} {v : Value} (ht : P.underlying t = some (.array n e)) (h : Value.okWide P W r base t v) : ∃ cs, v = .agg cs ∧ cs.size = P.cellsOf t := by
  simp only [Value.okWide, ht] at h
  obtain ⟨cs, h1, h2, _⟩ := h
  exact ⟨cs, h1, h2⟩
theorem arr_cells {H : Type} {enc : TypeId × Value → H} {W : World} {fuel n : Nat} {t : TypeId} {l : List Value} {x : DataW H × List MemPlace} (ht : Try.prog.underlying t = some (.array n 5)) (hn : l.length = n)
    (h : DataW.trod enc Try.prog W 0 (fun _ => true) true fuel t l = some x) : ∃ f : Nat → B, l.toArray = cB n f := by
  obtain ⟨xs, m, _, _, _, hxl, hx⟩ := DataW.trod_array ht h
  have hc : ∀ i, (hi : i < n) → ∃ z : Int, l[i]? = some (.int .u8 z) ∧ 0 ≤ z ∧ z < 256 := fun i hi => by
    have g := hx i hi
    rw [cells_u8, Nat.mul_one] at g
    have hil : i < l.length := by omega
    have e : (l.drop i).take 1 = [l[i]] := by
      rw [List.drop_eq_getElem_cons hil]
      rfl
    obtain ⟨y, hy⟩ : ∃ y, xs[i]? = some y := ⟨_, List.getElem?_eq_getElem (by omega)⟩
    rw [e, hy] at g
    obtain ⟨z, hz, _, hw⟩ := DataW.trod_int Try.underlying5 g
    have hz' : l[i] = .int .u8 z := by simpa using hz
    refine ⟨z, by rw [List.getElem?_eq_getElem hil, hz'], ?_⟩
    have h : IntKind.u8.min ≤ z ∧ z ≤ IntKind.u8.max := by simpa [Lit.wf] using hw
    have h2 : (0 : Int) ≤ z ∧ z ≤ 255 := h
    omega
  refine ⟨fun i => match l[i]? with
    | some v => toB (intOf v)
    | none => 0#8, ?_⟩
  apply Array.ext_getElem?
  intro i
  by_cases hi : i < n
  · obtain ⟨z, h1, h2, h3⟩ := hc i hi
    rw [cB_get n _ i hi, List.getElem?_toArray, h1]
    show some (Value.int .u8 z) = some (.int .u8 (ofB (toB z)))
    rw [ofB_toB h2 h3]
  · rw [Array.getElem?_eq_none (by simp; omega), Array.getElem?_eq_none (by rw [cB_size]; omega)]
theorem arr_arg {H : Type} {enc : TypeId × Value → H} {W : World} {r : Reach} {base n : Nat} {t : TypeId} {v : Value} {d : DataW H} {p : List MemPlace} (ht : Try.prog.underlying t = some (.array n 5)) (hs : Try.prog.cellsOf t = n)
    (hv : Value.okWide Try.prog W r base t v) (h : DataW.Trod enc Try.prog W 0 (fun _ => true) true t v d p) : ∃ f : Nat → B, v = .agg (cB n f) := by
  obtain ⟨cs, rfl, hcs⟩ := okWide_arr ht hv
  obtain ⟨fuel, hf⟩ := h
  obtain ⟨l⟩ := cs
  have hn : l.length = n := by rw [hs] at hcs; simpa using hcs
  have hf' : DataW.trod enc Try.prog W 0 (fun _ => true) true fuel t l = some (d, p) := hf
  obtain ⟨f, hl⟩ := arr_cells ht hn hf'
  exact ⟨f, by rw [← hl]⟩
theorem cells_k : Try.prog.cellsOf 22 = 32 := by kernel_rfl
theorem cells_n : Try.prog.cellsOf 23 = 12 := by kernel_rfl
theorem cells_m : Try.prog.cellsOf 37 = 16 := by kernel_rfl
theorem cells_b : Try.prog.cellsOf 24 = 1 := by kernel_rfl
theorem cells_i : Try.prog.cellsOf 3 = 1 := by kernel_rfl
theorem cells_se : Try.prog.cellsOf 26 = 46 := by kernel_rfl
def IsRow (k : IntKind) (w : World) (a : Option Addr) (len cap : Nat) (zs : List Int) : Prop :=
  (a = none ∧ len = 0 ∧ cap = 0 ∧ zs = []) ∨
  ∃ x, a = some x ∧ len ≤ cap ∧ cap ≤ maxLen ∧ zs.length = cap ∧ (∀ i, i < zs.length → w.cell? (x.add i) = some (.int k (zs.getD i 0))) ∧ ∀ n ∈ zs, (Lit.int k n).wf = true
/-- One cell that is a row of bytes. -/
theorem sl_cell {H : Type} {enc : TypeId × Value → H} {W : World} {fuel : Nat} {c : Value} {x : DataW H × List MemPlace}
    (h : DataW.trod enc Try.prog W 0 (fun _ => true) true fuel 24 [c] = some x) : ∃ A cap l, c = .slice A l.length cap ∧ Gcm.Arg W A cap l := by
  obtain ⟨A1, len1, cap1, z1, rfl, w1⟩ : ∃ A1 len1 cap1 zs, c = .slice A1 len1 cap1 ∧ IsRow .u8 W A1 len1 cap1 zs := by
    rcases open_ints Try.underlying24 Try.underlying5 (by kernel_rfl) h with ⟨hcs, _⟩ | ⟨x, l, c, zs, hcs, _, hl, hm, hz, _, hcell, hwz⟩
    · exact ⟨none, 0, 0, [], by simpa using hcs, .inl ⟨rfl, rfl, rfl, rfl⟩⟩
    · exact ⟨some x, l, c, zs, by simpa using hcs, .inr ⟨x, rfl, hl, hm, by simpa using hz, hcell, hwz⟩⟩
  obtain ⟨l1, rfl, hr1, hm1, hw1, hc1⟩ := Go.Proofs.YtbebmbcjddibaaaW.PrintWords.ReadsInt.ofRowC w1
  refine ⟨A1, cap1, l1, rfl, Go.Proofs.YtbebmbcjddibaaaW.PrintWords.Kd.C_of_reads (d := (0 : Int)) (h1 := fun _ => rfl) hr1, hc1, fun x hx => ?_⟩
  have h : IntKind.u8.min ≤ x ∧ x ≤ IntKind.u8.max := by simpa [Lit.wf] using hw1 x hx
  have h2 : (0 : Int) ≤ x ∧ x ≤ 255 := h
  omega
theorem one_cell {l : List Value} {o : Nat} (h : o < l.length) : (l.drop o).take 1 = [l[o]] := by
  rw [List.drop_eq_getElem_cons h]
  rfl
theorem se_arg {H : Type} {enc : TypeId × Value → H} {W : World} {r : Reach} {base : Nat} {v : Value} {d : DataW H} {p : List MemPlace}
    (hv : Value.okWide Try.prog W r base 26 v) (h : DataW.Trod enc Try.prog W 0 (fun _ => true) true 26 v d p) :
    ∃ key nonce A1 A2 c1 c2 l1 l2, v = .agg (Gcm.seC key nonce (.slice A1 (List.length l1) c1) (.slice A2 (List.length l2) c2)) ∧ Gcm.Arg W A1 c1 l1 ∧ Gcm.Arg W A2 c2 l2 := by
  obtain ⟨cs0, rfl, hcs⟩ := okWide_struct Try.underlying26 hv
  obtain ⟨fuel, hf⟩ := h
  obtain ⟨l⟩ := cs0
  have hf' : DataW.trod enc Try.prog W 0 (fun _ => true) true fuel 26 l = some (d, p) := hf
  obtain ⟨xs, n, _, _, hl, hxl, hx⟩ := DataW.trod_struct Try.underlying26 hf'
  rw [cells_se] at hl
  have hxl4 : xs.length = 4 := hxl
  have g0 := hx 0 _ rfl
  have g1 := hx 1 _ rfl
  have g2 := hx 2 _ rfl
  have g3 := hx 3 _ rfl
  have h0 : DataW.trod enc Try.prog W 0 (fun _ => true) true n 22 ((l.drop 0).take (Try.prog.cellsOf 22)) = some (xs[0]'(by omega)) := by rw [← List.getElem?_eq_getElem]; exact g0
  have h1 : DataW.trod enc Try.prog W 0 (fun _ => true) true n 23 ((l.drop 32).take (Try.prog.cellsOf 23)) = some (xs[1]'(by omega)) := by rw [← List.getElem?_eq_getElem]; exact g1
  have h2 : DataW.trod enc Try.prog W 0 (fun _ => true) true n 24 ((l.drop 44).take (Try.prog.cellsOf 24)) = some (xs[2]'(by omega)) := by rw [← List.getElem?_eq_getElem]; exact g2
  have h3 : DataW.trod enc Try.prog W 0 (fun _ => true) true n 24 ((l.drop 45).take (Try.prog.cellsOf 24)) = some (xs[3]'(by omega)) := by rw [← List.getElem?_eq_getElem]; exact g3
  rw [cells_k, List.drop_zero] at h0
  rw [cells_n] at h1
  rw [cells_b, one_cell (by omega)] at h2 h3
  obtain ⟨key, hk⟩ := arr_cells Try.underlying22 (by rw [List.length_take]; omega) h0
  obtain ⟨nonce, hn⟩ := arr_cells Try.underlying23 (by rw [List.length_take, List.length_drop]; omega) h1
  obtain ⟨A1, c1, l1, e1, r1⟩ := sl_cell h2
  obtain ⟨A2, c2, l2, e2, r2⟩ := sl_cell h3
  refine ⟨key, nonce, A1, A2, c1, c2, l1, l2, ?_, r1, r2⟩
  congr 1
  unfold Gcm.seC
  rw [← hk, ← hn, ← e1, ← e2]
  have e : l = l.take 32 ++ (l.drop 32).take 12 ++ [l[44]'(by omega), l[45]'(by omega)] := by
    apply List.ext_getElem?
    intro i
    by_cases i1 : i < 32
    · rw [List.append_assoc, List.getElem?_append_left (by rw [List.length_take]; omega), List.getElem?_take_of_lt i1]
    · by_cases i2 : i < 44
      · rw [List.append_assoc, List.getElem?_append_right (by rw [List.length_take]; omega), List.length_take, List.getElem?_append_left (by rw [List.length_take, List.length_drop]; omega), List.getElem?_take_of_lt (by omega), List.getElem?_drop]
        congr 1
        omega
      · rw [List.getElem?_append_right (by rw [List.length_append, List.length_take, List.length_take, List.length_drop]; omega), List.length_append, List.length_take, List.length_take, List.length_drop]
        by_cases i3 : i < 46
        · have : i = 44 ∨ i = 45 := by omega
          rcases this with rfl | rfl
          · rw [show 44 - (min 32 l.length + min 12 (l.length - 32)) = 0 by omega, List.getElem?_eq_getElem (by omega)]; rfl
          · rw [show 45 - (min 32 l.length + min 12 (l.length - 32)) = 1 by omega, List.getElem?_eq_getElem (by omega)]; rfl
        · rw [List.getElem?_eq_none (by omega), List.getElem?_eq_none (by simp; omega)]
  conv => lhs; rw [e]
  simp
theorem sl_arg {H : Type} {enc : TypeId × Value → H} {W : World} {r : Reach} {base : Nat} {v : Value} {d : DataW H} {p : List MemPlace} (hv : Value.okWide Try.prog W r base 24 v) (h : DataW.Trod enc Try.prog W 0 (fun _ => true) true 24 v d p) :
    ∃ A cap l, v = .slice A (List.length l) cap ∧ Gcm.Arg W A cap l := by
  obtain ⟨a0, len0, cap0, rfl⟩ := okWide_slice Try.underlying24 hv
  obtain ⟨fuel, hf⟩ := h
  exact sl_cell hf
end Go.Proofs.Ytbebmbcjddibaaa.Aes
