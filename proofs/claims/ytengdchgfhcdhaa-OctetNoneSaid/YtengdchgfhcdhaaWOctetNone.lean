/- It is proved here that the law OctetNone, called with any number, answers true and leaves what was there alone. No condition. -/
import Derived.Test.YtengdchgfhcdhaaWorks
namespace Go.Proofs.Ytengdchgfhcdhaa.HOctetNone
set_option linter.unusedVariables false
set_option linter.unusedSimpArgs false
open Go.RowKit Go.Proofs.Ytengdchgfhcdhaa.PA Go.Proofs.YtengdchgfhcdhaaW.PrintWords Go.Proofs.YtengdchgfhcdhaaW.PrintLast Go.Proofs.YtengdchgfhcdhaaW.PrintMore

set_option maxHeartbeats 1000000 in
theorem law (a0 : Int) (w : World) (w0 : (Lit.int .i64 a0).wf = true) :
    Calls Try.prog 5 #[.int .i64 a0] w fun e w' => e = .returned (.bool true) ∧ Below w.heap.size w w' := by
  clear w0
  go_enter Try.func5, Try.ntmps5
  go_wp2_with fail
  refine (Reader.U8_nil _).mono ?_
  rintro e w1 ⟨rfl, rfl⟩
  go_wp2_with fail
  refine (Reader.U16_nil _).mono ?_
  rintro e w1 ⟨rfl, rfl⟩
  go_wp2_with fail
  refine (Reader.U32_nil _).mono ?_
  rintro e w1 ⟨rfl, rfl⟩
  go_wp2_with fail
  refine (Reader.U64_nil _).mono ?_
  rintro e w1 ⟨rfl, rfl⟩
  go_wp2_with fail
  refine (Reader.Raw_nil _ _).mono ?_
  rintro e w1 ⟨v, rfl, hR, hB⟩
  obtain ⟨A, c, rfl, _⟩ := hR.reads
  have HB := Lib.hid hB
  clear hR hB
  go_wp2_with fail
  refine (Reader.Text_nil _).mono ?_
  rintro e w2 ⟨rfl, rfl⟩
  go_wp2_with fail
  refine (Reader.Left_nil _).mono ?_
  rintro e w2 ⟨rfl, rfl⟩
  go_wp2_with fail
  refine (Reader.Err_nil _).mono ?_
  rintro e w2 ⟨rfl, rfl⟩
  go_wp2_with fail
  refine (Works.works _).mono ?_
  rintro e w3 ⟨rfl, hB2⟩
  have HB2 : Hid (Below w.heap.size w w3) := HB.out.trans (hB2.mono HB.out.size)
  clear hB2
  go_wp2
  go_ret
  exact ⟨rfl, HB2.out⟩
end Go.Proofs.Ytengdchgfhcdhaa.HOctetNone
