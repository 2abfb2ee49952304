/- It is proved here that the law OctetOne answers true for every input and leaves its input alone. No condition. -/
import Derived.Test.YtengdchgfhcdhaaRows
import Derived.Test.YtengdchgfhcdhaaWOctetOne
import Derived.WalkKit
import Derived.ProofKit
import Derived.OpenShut
import Derived.ShutString
import Derived.ChangeOld
import Derived.Below
import Derived.SizedLaws
namespace Go.Proofs.Ytengdchgfhcdhaa.octetOne
open Go.ChangeShapes Go.WideShapes Go.ChangeAt Go.RowKit
set_option linter.unusedVariables false
theorem own : ownKnob Try.prog.godebug = none := by kernel_rfl
theorem laidOut : laidOutB Try.prog = true := by kernel_rfl
def IsRow (k : IntKind) (w : World) (a : Option Addr) (len cap : Nat) (zs : List Int) : Prop :=
  (a = none ∧ len = 0 ∧ cap = 0 ∧ zs = []) ∨
  ∃ x, a = some x ∧ len ≤ cap ∧ cap ≤ maxLen ∧ zs.length = cap ∧ (∀ i, i < zs.length → w.cell? (x.add i) = some (.int k (zs.getD i 0))) ∧ ∀ n ∈ zs, (Lit.int k n).wf = true
theorem cells0 : Try.prog.cellsOf 72 = 4 := by kernel_rfl
theorem cells1 : Try.prog.cellsOf 9 = 1 := by kernel_rfl
theorem cells2 : Try.prog.cellsOf 22 = 1 := by kernel_rfl
theorem cells3 : Try.prog.cellsOf 23 = 1 := by kernel_rfl
theorem four {α : Type} (l : List α) (h : l.length = 4) : ∃ a b c d, l = [a, b, c, d] := by
  match l, h with
  | [a, b, c, d], _ => exact ⟨a, b, c, d, rfl⟩
theorem wf64 {n : Int} (h : (Lit.int .u64 n).wf = true) : 0 ≤ n ∧ n < 18446744073709551616 := by
  have h : IntKind.u64.min ≤ n ∧ n ≤ IntKind.u64.max := by simpa [Lit.wf] using h
  have h2 : (0 : Int) ≤ n ∧ n ≤ 18446744073709551615 := h
  omega
set_option maxRecDepth 100000 in
theorem lifted (os : Os) (started : os.Started) (H : Type) (enc : TypeId × Value → H) :
    ReturnsInHanded {} Try.checked os 9 .any (Rows.octetOneSpec.pre6 enc Try.prog Try.f9 Rows.octetOneRow.domain false) (Rows.octetOneSpec.post enc Try.prog Try.f9 false true false false) := by
  refine returnsInHanded_of_change_sized (C := Try.checked) own started (by kernel_rfl) Try.func9
    (ChangeSpec.witness6 (enc := enc) (C := Try.checked) false ⟨#[], #[.agg #[.string ByteArray.empty, .slice none 0 0, .int .u64 0, .int .u64 0]], []⟩ 8 (by kernel_rfl) (by kernel_rfl) (by kernel_rfl) (by kernel_rfl)) ?_
  intro W base args ds gs before hval0 hW hcnd hsz0 _
  have hval : ∀ (j : Nat) t v, Try.f9.params[j]? = some t → args[j]? = some v → Value.okWide Try.prog W .any base t v := hval0
  have hW' := hW
  obtain ⟨p, q, hA0, hV, rfl, hfz, hnd⟩ := hW
  have hA : DataW.TrodAll enc Try.prog W 0 (fun _ => true) true Try.f9.params.toList args.toList ds p := hA0
  rw [Try.params9] at hA hval
  obtain ⟨v0, vs0, d0, ds0, p0, q0, hargs, rfl, rfl, h0, r0⟩ := trodAll_cons hA
  obtain ⟨rfl, rfl, rfl⟩ := trodAll_nil r0
  obtain rfl : args = #[v0] := by cases args; simp_all
  obtain ⟨rfl, rfl⟩ := trodVars_none hV
  obtain ⟨cs0, rfl, hcs⟩ := okWide_struct Try.underlying72 (hval 0 72 v0 rfl rfl)
  have k0 := h0
  have lt0 : ∀ x ∈ p0, x.block < W.heap.size := by obtain ⟨m, hm⟩ := k0; exact DataW.trod_lt m _ _ _ hm
  obtain ⟨fuel, hf⟩ := h0
  obtain ⟨xs, n, _, _, hl, hxl, hx⟩ := DataW.trod_struct Try.underlying72 hf
  rw [cells0] at hl
  obtain ⟨l⟩ := cs0
  have hl2 : l.length = 4 := hl
  obtain ⟨c0, c1, c2, c3, rfl⟩ := four l hl2
  obtain ⟨y0, y1, y2, y3, rfl⟩ := four xs hxl
  have g0 : DataW.trod enc Try.prog W 0 (fun _ => true) true n 9 (List.take (Try.prog.cellsOf 9) (List.drop 0 [c0, c1, c2, c3])) = some y0 := hx 0 _ rfl
  rw [cells1] at g0
  have t0 : DataW.trod enc Try.prog W 0 (fun _ => true) true n 9 [c0] = some y0 := g0
  have g1 : DataW.trod enc Try.prog W 0 (fun _ => true) true n 22 (List.take (Try.prog.cellsOf 22) (List.drop 1 [c0, c1, c2, c3])) = some y1 := hx 1 _ rfl
  rw [cells2] at g1
  have t1 : DataW.trod enc Try.prog W 0 (fun _ => true) true n 22 [c1] = some y1 := g1
  have g2 : DataW.trod enc Try.prog W 0 (fun _ => true) true n 23 (List.take (Try.prog.cellsOf 23) (List.drop 2 [c0, c1, c2, c3])) = some y2 := hx 2 _ rfl
  rw [cells3] at g2
  have t2 : DataW.trod enc Try.prog W 0 (fun _ => true) true n 23 [c2] = some y2 := g2
  have g3 : DataW.trod enc Try.prog W 0 (fun _ => true) true n 23 (List.take (Try.prog.cellsOf 23) (List.drop 3 [c0, c1, c2, c3])) = some y3 := hx 3 _ rfl
  rw [cells3] at g3
  have t3 : DataW.trod enc Try.prog W 0 (fun _ => true) true n 23 [c3] = some y3 := g3
  obtain ⟨a0, e0, _, hs0⟩ := DataW.trod_string Try.underlying9 t0
  obtain ⟨m, e2, _, hwm⟩ := DataW.trod_int Try.underlying23 t2
  obtain ⟨k, e3, _, hwk⟩ := DataW.trod_int Try.underlying23 t3
  obtain rfl : c0 = .string a0 := by simpa using e0
  obtain rfl : c2 = .int .u64 m := by simpa using e2
  obtain rfl : c3 = .int .u64 k := by simpa using e3
  obtain ⟨A1, len1, cap1, z1, rfl, w1⟩ : ∃ A1 len1 cap1 zs, c1 = .slice A1 len1 cap1 ∧ IsRow .u8 W A1 len1 cap1 zs := by
    rcases open_ints Try.underlying22 Try.underlying5 (by kernel_rfl) t1 with ⟨hcs, _⟩ | ⟨x, l, c, zs, hcs, _, hl, hm, hz, _, hcell, hwz⟩
    · exact ⟨none, 0, 0, [], by simpa using hcs, .inl ⟨rfl, rfl, rfl, rfl⟩⟩
    · exact ⟨some x, l, c, zs, by simpa using hcs, .inr ⟨x, rfl, hl, hm, by simpa using hz, hcell, hwz⟩⟩
  obtain ⟨l1, rfl, hr1, hm1, hw1, hc1⟩ := Go.Proofs.YtengdchgfhcdhaaW.PrintWords.ReadsInt.ofRowC w1
  have hb1 : ∀ x ∈ l1, 0 ≤ x ∧ x < 256 := fun x hx => by
    have h : IntKind.u8.min ≤ x ∧ x ≤ IntKind.u8.max := by simpa [Lit.wf] using hw1 x hx
    have h2 : (0 : Int) ≤ x ∧ x ≤ 255 := h
    omega
  clear hA0 hval0 hsz0 hx hf
  refine (HOctetOne.law a0 A1 cap1 l1 m k W (Go.Proofs.YtengdchgfhcdhaaW.PrintWords.Kd.C_of_reads (d := (0 : Int)) (h1 := fun _ => rfl) hr1) hc1 hb1 hm1 hs0 (wf64 hwm).1 (wf64 hwm).2 (wf64 hwk).1 (wf64 hwk).2).mono fun e W' ⟨he, bel⟩ => ?_
  subst he
  exact ⟨_, rfl, _, _, _, [], _, [], hW', trodAll_mk1 (shut_bool Try.underlying4 _), trodAll_cons_mk (Below.trod laidOut (by kernel_rfl) (of_decide_eq_true (by kernel_rfl)) k0 bel lt0) trodAll_mk0, rfl, bel.frame _, fun h => by cases h⟩
theorem over : Rows.octetOneRow.holds Try.pinned (OpenSpec.ofChange Rows.octetOneSpec) :=
  OpenClaim.holds_of_wide 9 Try.f9 rfl rfl rfl rfl rfl rfl rfl ⟨rfl, rfl, rfl, rfl, rfl⟩ rfl rfl rfl rfl rfl (by kernel_rfl) Try.func9 (by kernel_rfl)
    (of_decide_eq_true (by kernel_rfl)) (by unfold Func.isWrapper; first | (rw [if_pos (by decide +kernel)]; kernel_rfl) | (rw [if_neg (by decide +kernel)]; exact ⟨rfl, rfl⟩))
    (fun os started H enc _ => lifted os started H enc)
theorem proved : Rows.OctetOneSaid := over
#print axioms proved
end Go.Proofs.Ytengdchgfhcdhaa.octetOne
namespace Go.Proofs.Ytengdchgfhcdhaa
/-- The row, under a short name, for the claim. -/
theorem octetOne_holds : Rows.OctetOneSaid := octetOne.proved
end Go.Proofs.Ytengdchgfhcdhaa
