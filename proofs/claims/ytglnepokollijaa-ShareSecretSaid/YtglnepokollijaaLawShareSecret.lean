/- It is proved here that the law ShareSecret answers true for every input and leaves its input alone. No condition. -/
import Derived.Test.YtglnepokollijaaRows
import Derived.Test.YtglnepokollijaaWShareSecret
import Derived.WalkKit
import Derived.ProofKit
import Derived.OpenShut
import Derived.ShutString
import Derived.ChangeOld
import Derived.Below
import Derived.SizedLaws
namespace Go.Proofs.Ytglnepokollijaa.shareSecret
open Go.ChangeShapes Go.WideShapes Go.ChangeAt Go.RowKit
set_option linter.unusedVariables false
theorem own : ownKnob Try.prog.godebug = none := by kernel_rfl
theorem laidOut : laidOutB Try.prog = true := by kernel_rfl
def IsRow (k : IntKind) (w : World) (a : Option Addr) (len cap : Nat) (zs : List Int) : Prop :=
  (a = none ∧ len = 0 ∧ cap = 0 ∧ zs = []) ∨
  ∃ x, a = some x ∧ len ≤ cap ∧ cap ≤ maxLen ∧ zs.length = cap ∧ (∀ i, i < zs.length → w.cell? (x.add i) = some (.int k (zs.getD i 0))) ∧ ∀ n ∈ zs, (Lit.int k n).wf = true
theorem cells0 : Try.prog.cellsOf 39 = 6 := by kernel_rfl
theorem cells_b : Try.prog.cellsOf 22 = 1 := by kernel_rfl
theorem cells_i : Try.prog.cellsOf 3 = 1 := by kernel_rfl
theorem cells_j : Try.prog.cellsOf 37 = 1 := by kernel_rfl
theorem many {α : Type} (l : List α) (h : l.length = 6) : ∃ a0_ a1_ a2_ a3_ a4_ a5_, l = [a0_, a1_, a2_, a3_, a4_, a5_] := by
  match l, h with
  | [a0_, a1_, a2_, a3_, a4_, a5_], _ => exact ⟨a0_, a1_, a2_, a3_, a4_, a5_, rfl⟩
theorem wf8 {l : List Int} (h : ∀ n ∈ l, (Lit.int .u8 n).wf = true) : ∀ x ∈ l, 0 ≤ x ∧ x < 256 := fun x hx => by
  have h : IntKind.u8.min ≤ x ∧ x ≤ IntKind.u8.max := by simpa [Lit.wf] using h x hx
  have h2 : (0 : Int) ≤ x ∧ x ≤ 255 := h
  omega
set_option maxRecDepth 100000 in
theorem lifted (os : Os) (started : os.Started) (H : Type) (enc : TypeId × Value → H) :
    ReturnsInHanded {} Try.checked os 4 .any (Rows.shareSecretSpec.pre6 enc Try.prog Try.f4 Rows.shareSecretRow.domain false) (Rows.shareSecretSpec.post enc Try.prog Try.f4 false true false false) := by
  refine returnsInHanded_of_change_sized (C := Try.checked) own started (by kernel_rfl) Try.func4
    (ChangeSpec.witness6 (enc := enc) (C := Try.checked) false ⟨#[], #[.agg #[.slice none 0 0, .slice none 0 0, .int .i64 0, .int .i64 0, .slice none 0 0, .slice none 0 0]], []⟩ 8 (by kernel_rfl) (by kernel_rfl) (by kernel_rfl) (by kernel_rfl)) ?_
  intro W base args ds gs before hval0 hW hcnd hsz0 _
  have hval : ∀ (j : Nat) t v, Try.f4.params[j]? = some t → args[j]? = some v → Value.okWide Try.prog W .any base t v := hval0
  have hW' := hW
  obtain ⟨p, q, hA0, hV, rfl, hfz, hnd⟩ := hW
  have hA : DataW.TrodAll enc Try.prog W 0 (fun _ => true) true Try.f4.params.toList args.toList ds p := hA0
  rw [Try.params4] at hA hval
  obtain ⟨v0, vs0, d0, ds0, p0, q0, hargs, rfl, rfl, h0, r0⟩ := trodAll_cons hA
  obtain ⟨rfl, rfl, rfl⟩ := trodAll_nil r0
  obtain rfl : args = #[v0] := by cases args; simp_all
  obtain ⟨rfl, rfl⟩ := trodVars_none hV
  obtain ⟨cs0, rfl, hcs⟩ := okWide_struct Try.underlying39 (hval 0 39 v0 rfl rfl)
  have k0 := h0
  have lt0 : ∀ x ∈ p0, x.block < W.heap.size := by obtain ⟨m, hm⟩ := k0; exact DataW.trod_lt m _ _ _ hm
  obtain ⟨fuel, hf⟩ := h0
  obtain ⟨xs, n, _, _, hl, hxl, hx⟩ := DataW.trod_struct Try.underlying39 hf
  rw [cells0] at hl
  obtain ⟨l⟩ := cs0
  have hl2 : l.length = 6 := hl
  obtain ⟨c0, c1, c2, c3, c4, c5, rfl⟩ := many l hl2
  obtain ⟨y0, y1, y2, y3, y4, y5, rfl⟩ := many xs hxl
  have g0 : DataW.trod enc Try.prog W 0 (fun _ => true) true n 22 (List.take (Try.prog.cellsOf 22) (List.drop 0 [c0, c1, c2, c3, c4, c5])) = some y0 := hx 0 _ rfl
  rw [cells_b] at g0
  have t0 : DataW.trod enc Try.prog W 0 (fun _ => true) true n 22 [c0] = some y0 := g0
  have g1 : DataW.trod enc Try.prog W 0 (fun _ => true) true n 22 (List.take (Try.prog.cellsOf 22) (List.drop 1 [c0, c1, c2, c3, c4, c5])) = some y1 := hx 1 _ rfl
  rw [cells_b] at g1
  have t1 : DataW.trod enc Try.prog W 0 (fun _ => true) true n 22 [c1] = some y1 := g1
  have g2 : DataW.trod enc Try.prog W 0 (fun _ => true) true n 3 (List.take (Try.prog.cellsOf 3) (List.drop 2 [c0, c1, c2, c3, c4, c5])) = some y2 := hx 2 _ rfl
  rw [cells_i] at g2
  have t2 : DataW.trod enc Try.prog W 0 (fun _ => true) true n 3 [c2] = some y2 := g2
  have g3 : DataW.trod enc Try.prog W 0 (fun _ => true) true n 3 (List.take (Try.prog.cellsOf 3) (List.drop 3 [c0, c1, c2, c3, c4, c5])) = some y3 := hx 3 _ rfl
  rw [cells_i] at g3
  have t3 : DataW.trod enc Try.prog W 0 (fun _ => true) true n 3 [c3] = some y3 := g3
  have g4 : DataW.trod enc Try.prog W 0 (fun _ => true) true n 22 (List.take (Try.prog.cellsOf 22) (List.drop 4 [c0, c1, c2, c3, c4, c5])) = some y4 := hx 4 _ rfl
  rw [cells_b] at g4
  have t4 : DataW.trod enc Try.prog W 0 (fun _ => true) true n 22 [c4] = some y4 := g4
  have g5 : DataW.trod enc Try.prog W 0 (fun _ => true) true n 37 (List.take (Try.prog.cellsOf 37) (List.drop 5 [c0, c1, c2, c3, c4, c5])) = some y5 := hx 5 _ rfl
  rw [cells_j] at g5
  have t5 : DataW.trod enc Try.prog W 0 (fun _ => true) true n 37 [c5] = some y5 := g5
  obtain ⟨m2, e2, _, hwm2⟩ := DataW.trod_int Try.underlying3 t2
  obtain rfl : c2 = .int .i64 m2 := by simpa using e2
  obtain ⟨m3, e3, _, hwm3⟩ := DataW.trod_int Try.underlying3 t3
  obtain rfl : c3 = .int .i64 m3 := by simpa using e3
  obtain ⟨A0, len0, cap0, z0, rfl, w0⟩ : ∃ A1 len1 cap1 zs, c0 = .slice A1 len1 cap1 ∧ IsRow .u8 W A1 len1 cap1 zs := by
    rcases open_ints Try.underlying22 Try.underlying5 (by kernel_rfl) t0 with ⟨hcs, _⟩ | ⟨x, l, c, zs, hcs, _, hl, hm, hz, _, hcell, hwz⟩
    · exact ⟨none, 0, 0, [], by simpa using hcs, .inl ⟨rfl, rfl, rfl, rfl⟩⟩
    · exact ⟨some x, l, c, zs, by simpa using hcs, .inr ⟨x, rfl, hl, hm, by simpa using hz, hcell, hwz⟩⟩
  obtain ⟨l0, rfl, hr0, hm0, hw0, hc0⟩ := Go.Proofs.YtglnepokollijaaW.PrintWords.ReadsInt.ofRowC w0
  have hC0 := Go.Proofs.YtglnepokollijaaW.PrintWords.Kd.C_of_reads (d := (0 : Int)) (h1 := fun _ => rfl) hr0
  obtain ⟨A1, len1, cap1, z1, rfl, w1⟩ : ∃ A1 len1 cap1 zs, c1 = .slice A1 len1 cap1 ∧ IsRow .u8 W A1 len1 cap1 zs := by
    rcases open_ints Try.underlying22 Try.underlying5 (by kernel_rfl) t1 with ⟨hcs, _⟩ | ⟨x, l, c, zs, hcs, _, hl, hm, hz, _, hcell, hwz⟩
    · exact ⟨none, 0, 0, [], by simpa using hcs, .inl ⟨rfl, rfl, rfl, rfl⟩⟩
    · exact ⟨some x, l, c, zs, by simpa using hcs, .inr ⟨x, rfl, hl, hm, by simpa using hz, hcell, hwz⟩⟩
  obtain ⟨l1, rfl, hr1, hm1, hw1, hc1⟩ := Go.Proofs.YtglnepokollijaaW.PrintWords.ReadsInt.ofRowC w1
  have hC1 := Go.Proofs.YtglnepokollijaaW.PrintWords.Kd.C_of_reads (d := (0 : Int)) (h1 := fun _ => rfl) hr1
  obtain ⟨A4, len4, cap4, z4, rfl, w4⟩ : ∃ A1 len1 cap1 zs, c4 = .slice A1 len1 cap1 ∧ IsRow .u8 W A1 len1 cap1 zs := by
    rcases open_ints Try.underlying22 Try.underlying5 (by kernel_rfl) t4 with ⟨hcs, _⟩ | ⟨x, l, c, zs, hcs, _, hl, hm, hz, _, hcell, hwz⟩
    · exact ⟨none, 0, 0, [], by simpa using hcs, .inl ⟨rfl, rfl, rfl, rfl⟩⟩
    · exact ⟨some x, l, c, zs, by simpa using hcs, .inr ⟨x, rfl, hl, hm, by simpa using hz, hcell, hwz⟩⟩
  obtain ⟨l4, rfl, hr4, hm4, hw4, hc4⟩ := Go.Proofs.YtglnepokollijaaW.PrintWords.ReadsInt.ofRowC w4
  have hC4 := Go.Proofs.YtglnepokollijaaW.PrintWords.Kd.C_of_reads (d := (0 : Int)) (h1 := fun _ => rfl) hr4
  obtain ⟨A5, len5, cap5, z5, rfl, w5⟩ : ∃ A1 len1 cap1 zs, c5 = .slice A1 len1 cap1 ∧ IsRow .i64 W A1 len1 cap1 zs := by
    rcases open_ints Try.underlying37 Try.underlying3 (by kernel_rfl) t5 with ⟨hcs, _⟩ | ⟨x, l, c, zs, hcs, _, hl, hm, hz, _, hcell, hwz⟩
    · exact ⟨none, 0, 0, [], by simpa using hcs, .inl ⟨rfl, rfl, rfl, rfl⟩⟩
    · exact ⟨some x, l, c, zs, by simpa using hcs, .inr ⟨x, rfl, hl, hm, by simpa using hz, hcell, hwz⟩⟩
  obtain ⟨l5, rfl, hr5, hm5, hw5, hc5⟩ := Go.Proofs.YtglnepokollijaaW.PrintWords.ReadsInt.ofRowC w5
  have hC5 := Go.Proofs.YtglnepokollijaaW.PrintWords.Kd.C_of_reads (d := (0 : Int)) (h1 := fun _ => rfl) hr5
  clear hA0 hval0 hsz0 hx hf
  refine (Go.Proofs.Ytglnepokollijaa.HShareSecret.law A0 A1 A4 A5 cap0 cap1 cap4 cap5 l0 l1 l4 l5 m2 m3 W hC0 hc0 hC1 hc1 hC4 hc4 hC5 hc5 (wf8 hw0) (wf8 hw1) (wf8 hw4) hm0 hm5).mono fun e W' ⟨he, bel⟩ => ?_
  subst he
  exact ⟨_, rfl, _, _, _, [], _, [], hW', trodAll_mk1 (shut_bool Try.underlying4 _), trodAll_cons_mk (Below.trod laidOut (by kernel_rfl) (of_decide_eq_true (by kernel_rfl)) k0 bel lt0) trodAll_mk0, rfl, bel.frame _, fun h => by cases h⟩
theorem over : Rows.shareSecretRow.holds Try.pinned (OpenSpec.ofChange Rows.shareSecretSpec) :=
  OpenClaim.holds_of_wide 4 Try.f4 rfl rfl rfl rfl rfl rfl rfl ⟨rfl, rfl, rfl, rfl, rfl⟩ rfl rfl rfl rfl rfl (by kernel_rfl) Try.func4 (by kernel_rfl)
    (of_decide_eq_true (by kernel_rfl)) (by unfold Func.isWrapper; first | (rw [if_pos (by decide +kernel)]; kernel_rfl) | (rw [if_neg (by decide +kernel)]; exact ⟨rfl, rfl⟩))
    (fun os started H enc _ => lifted os started H enc)
theorem proved : Rows.ShareSecretSaid := over
#print axioms proved
end Go.Proofs.Ytglnepokollijaa.shareSecret
namespace Go.Proofs.Ytglnepokollijaa
/-- The row, under a short name, for the claim. -/
theorem shareSecret_holds : Rows.ShareSecretSaid := shareSecret.proved
end Go.Proofs.Ytglnepokollijaa
