/- It is proved here that the law ShareTexts answers true for every input and leaves its input alone. No condition. -/
import Derived.Test.YtglnepokollijaaRows
import Derived.Test.YtglnepokollijaaWShareTexts
import Derived.WalkKit
import Derived.ProofKit
import Derived.OpenShut
import Derived.ShutString
import Derived.ChangeOld
import Derived.Below
import Derived.SizedLaws
import Derived.Deep.Slices
import Derived.Deep.Strs
namespace Go.Proofs.Ytglnepokollijaa.shareTexts
open Go.ChangeShapes Go.WideShapes Go.ChangeAt Go.RowKit Go.Deep
open Go.ChangeMaps (open_string shut_string)
set_option linter.unusedVariables false
theorem own : ownKnob Try.prog.godebug = none := by kernel_rfl
theorem laidOut : laidOutB Try.prog = true := by kernel_rfl
def IsRow (k : IntKind) (w : World) (a : Option Addr) (len cap : Nat) (zs : List Int) : Prop :=
  (a = none ∧ len = 0 ∧ cap = 0 ∧ zs = []) ∨
  ∃ x, a = some x ∧ len ≤ cap ∧ cap ≤ maxLen ∧ zs.length = cap ∧ (∀ i, i < zs.length → w.cell? (x.add i) = some (.int k (zs.getD i 0))) ∧ ∀ n ∈ zs, (Lit.int k n).wf = true
theorem cells0 : Try.prog.cellsOf 44 = 2 := by kernel_rfl
theorem cells1 : Try.prog.cellsOf 22 = 1 := by kernel_rfl
theorem cells2 : Try.prog.cellsOf 5 = 1 := by kernel_rfl
theorem wf8 {l : List Int} (h : ∀ n ∈ l, (Lit.int .u8 n).wf = true) : ∀ x ∈ l, 0 ≤ x ∧ x < 256 := fun x hx => Go.Proofs.Ytglnepokollijaa.Gfi.of_wf (h x hx)
theorem two {α : Type} (l : List α) (h : l.length = 2) : ∃ a b, l = [a, b] := by
  match l, h with
  | [a, b], _ => exact ⟨a, b, rfl⟩
/-- A share in cells. -/
def Cells (W : World) (s : Go.Proofs.Ytglnepokollijaa.PT.S44) (cs : List Value) : Prop :=
  (∃ (C : Option Addr) (cap : Nat), cs = [.int .u8 s.f0, .slice C s.f1.length cap] ∧ s.f1.length ≤ cap ∧ Go.Proofs.YtglnepokollijaaW.PrintWords.Kd.C (Go.Proofs.YtglnepokollijaaW.PrintWords.Kd.int .u8) W C s.f1.length s.f1) ∧ (0 ≤ s.f0 ∧ s.f0 < 256) ∧ ∀ x ∈ s.f1, 0 ≤ x ∧ x < 256
theorem share_of {H : Type} {enc : TypeId × Value → H} {W : World} {n : Nat} {cs : List Value} {x : DataW H × List MemPlace} (h : DataW.trod enc Try.prog W 0 (fun _ => true) true n 44 cs = some x) : ∃ s, Cells W s cs := by
  obtain ⟨xs, m, _, _, hl, hxl, hx⟩ := DataW.trod_struct Try.underlying44 h
  rw [cells0] at hl
  obtain ⟨c0, c1, rfl⟩ := two cs hl
  obtain ⟨y0, y1, rfl⟩ := two xs hxl
  have g0 : DataW.trod enc Try.prog W 0 (fun _ => true) true m 5 (List.take (Try.prog.cellsOf 5) (List.drop 0 [c0, c1])) = some y0 := hx 0 _ rfl
  have g1 : DataW.trod enc Try.prog W 0 (fun _ => true) true m 22 (List.take (Try.prog.cellsOf 22) (List.drop 1 [c0, c1])) = some y1 := hx 1 _ rfl
  rw [cells2] at g0
  rw [cells1] at g1
  have t1 : DataW.trod enc Try.prog W 0 (fun _ => true) true m 22 [c1] = some y1 := g1
  obtain ⟨k, e0, _, hw0⟩ := DataW.trod_int Try.underlying5 g0
  obtain rfl : c0 = .int .u8 k := by simpa using e0
  obtain ⟨A1, len1, cap1, z1, rfl, w1⟩ : ∃ A1 len1 cap1 zs, c1 = .slice A1 len1 cap1 ∧ IsRow .u8 W A1 len1 cap1 zs := by
    rcases open_ints Try.underlying22 Try.underlying5 (by kernel_rfl) t1 with ⟨hcs, _⟩ | ⟨x, l, c, zs, hcs, _, hl, hm, hz, _, hcell, hwz⟩
    · exact ⟨none, 0, 0, [], by simpa using hcs, .inl ⟨rfl, rfl, rfl, rfl⟩⟩
    · exact ⟨some x, l, c, zs, by simpa using hcs, .inr ⟨x, rfl, hl, hm, by simpa using hz, hcell, hwz⟩⟩
  obtain ⟨l1, rfl, hr1, hm1, hw1, hc1⟩ := Go.Proofs.YtglnepokollijaaW.PrintWords.ReadsInt.ofRowC w1
  exact ⟨⟨k, l1⟩, ⟨A1, cap1, rfl, hc1, Go.Proofs.YtglnepokollijaaW.PrintWords.Kd.C_of_reads (d := (0 : Int)) (h1 := fun _ => rfl) hr1⟩, Go.Proofs.Ytglnepokollijaa.Gfi.of_wf hw0, wf8 hw1⟩
set_option maxRecDepth 100000 in
theorem lifted (os : Os) (started : os.Started) (H : Type) (enc : TypeId × Value → H) :
    ReturnsInHanded {} Try.checked os 7 .any (Rows.shareTextsSpec.pre6 enc Try.prog Try.f7 Rows.shareTextsRow.domain false) (Rows.shareTextsSpec.post enc Try.prog Try.f7 false true false false) := by
  refine returnsInHanded_of_change_sized (C := Try.checked) own started (by kernel_rfl) Try.func7
    (ChangeSpec.witness6 (enc := enc) (C := Try.checked) false ⟨#[], #[.agg #[.int .u8 0, .slice none 0 0], .string ⟨#[]⟩], []⟩ 8 (by kernel_rfl) (by kernel_rfl) (by kernel_rfl) (by kernel_rfl)) ?_
  intro W base args ds gs before hval0 hW hcnd hsz0 _
  have hval : ∀ (j : Nat) t v, Try.f7.params[j]? = some t → args[j]? = some v → Value.okWide Try.prog W .any base t v := hval0
  have hW' := hW
  obtain ⟨p, q, hA0, hV, rfl, hfz, hnd⟩ := hW
  have hA : DataW.TrodAll enc Try.prog W 0 (fun _ => true) true Try.f7.params.toList args.toList ds p := hA0
  rw [Try.params7] at hA hval
  obtain ⟨v0, vs0, d0, ds0, p0, q0, hargs, rfl, rfl, h0, r0⟩ := trodAll_cons hA
  obtain ⟨v1, vs1, d1, ds1, p1, q1, rfl, rfl, rfl, h1, r1⟩ := trodAll_cons r0
  obtain ⟨rfl, rfl, rfl⟩ := trodAll_nil r1
  obtain rfl : args = #[v0, v1] := by cases args; simp_all
  obtain ⟨rfl, rfl⟩ := trodVars_none hV
  obtain ⟨cs0, rfl, hcs⟩ := okWide_struct Try.underlying44 (hval 0 44 v0 rfl rfl)
  have k0 := h0
  have k1 := h1
  have lt0 : ∀ x ∈ p0, x.block < W.heap.size := by obtain ⟨m, hm⟩ := k0; exact DataW.trod_lt m _ _ _ hm
  have lt1 : ∀ x ∈ p1, x.block < W.heap.size := by obtain ⟨m, hm⟩ := k1; exact DataW.trod_lt m _ _ _ hm
  obtain ⟨fuel, hf⟩ := h0
  obtain ⟨s, ⟨C, cap, e, hcap, hC⟩, hx, hy⟩ := share_of hf
  obtain ⟨l⟩ := cs0
  obtain rfl : l = [.int .u8 s.f0, .slice C s.f1.length cap] := e
  obtain ⟨t, rfl, rfl, rfl, hsz⟩ := open_string Try.underlying9 (hval 1 9 v1 rfl rfl) h1
  have hmx : s.f1.length ≤ 9223372036854775807 := hC.2.1
  clear hA0 hval0 hsz0 hf
  refine (HShareTexts.law s.f0 C cap s.f1 t W hC hcap hmx hsz hx hy).mono fun e W' ⟨he, bel⟩ => ?_
  subst he
  exact ⟨_, rfl, _, _, _, [], _, [], hW', trodAll_mk1 (shut_bool Try.underlying4 _), trodAll_cons_mk (Below.trod laidOut (by kernel_rfl) (of_decide_eq_true (by kernel_rfl)) k0 bel lt0) (trodAll_cons_mk (Below.trod laidOut (by kernel_rfl) (of_decide_eq_true (by kernel_rfl)) k1 bel lt1) trodAll_mk0), rfl, bel.frame _, fun h => by cases h⟩
theorem over : Rows.shareTextsRow.holds Try.pinned (OpenSpec.ofChange Rows.shareTextsSpec) :=
  OpenClaim.holds_of_wide 7 Try.f7 rfl rfl rfl rfl rfl rfl rfl ⟨rfl, rfl, rfl, rfl, rfl⟩ rfl rfl rfl rfl rfl (by kernel_rfl) Try.func7 (by kernel_rfl)
    (of_decide_eq_true (by kernel_rfl)) (by unfold Func.isWrapper; first | (rw [if_pos (by decide +kernel)]; kernel_rfl) | (rw [if_neg (by decide +kernel)]; exact ⟨rfl, rfl⟩))
    (fun os started H enc _ => lifted os started H enc)
theorem proved : Rows.ShareTextsSaid := over
#print axioms proved
end Go.Proofs.Ytglnepokollijaa.shareTexts
namespace Go.Proofs.Ytglnepokollijaa
/-- The row, under a short name, for the claim. -/
theorem shareTexts_holds : Rows.ShareTextsSaid := shareTexts.proved
end Go.Proofs.Ytglnepokollijaa
