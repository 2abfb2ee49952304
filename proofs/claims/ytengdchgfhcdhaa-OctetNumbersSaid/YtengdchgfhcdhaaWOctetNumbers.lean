/- It is proved here that the law OctetNumbers, called with any number and any text, answers true and leaves what was there alone. No condition. -/
import Derived.Test.YtengdchgfhcdhaaWorks
import Derived.Test.YtengdchgfhcdhaaPureNum3
namespace Go.Proofs.Ytengdchgfhcdhaa.HOctetNumbers
set_option linter.unusedVariables false
set_option linter.unusedSimpArgs false
open Go.RowKit Go.Proofs.YtengdchgfhcdhaaW.PrintWords Go.Proofs.YtengdchgfhcdhaaW.PrintLast Go.Proofs.YtengdchgfhcdhaaW.PrintMore

set_option maxHeartbeats 1000000 in
theorem law (a0 : Int) (a1 : ByteArray) (w : World) (w0 : (Lit.int .u64 a0).wf = true) (w1 : a1.size ≤ 140737488351232) :
    Calls Try.prog 7 #[.int .u64 a0, .string a1] w fun e w' => e = .returned (.bool true) ∧ Below w.heap.size w w' := by
  have hwf : 0 ≤ a0 ∧ a0 ≤ 18446744073709551615 := by
    have h : IntKind.u64.min ≤ a0 ∧ a0 ≤ IntKind.u64.max := by simpa [Lit.wf] using w0
    exact h
  by_cases hl : 131072 < a1.size
  · clear hwf w0
    go_enter Try.func7, Try.ntmps7
    go_wp2_with fail
    refine (Works.works _).mono ?_
    rintro e w1 ⟨rfl, hb⟩
    go_wp2
    go_ret
    exact ⟨rfl, hb⟩
  · obtain ⟨r1, r2, K, hf⟩ := PureNum.number_both a1 (by omega)
    have F1 := Lib.hid (hf K (Nat.le_refl _)).1
    have F2 := Lib.hid (hf K (Nat.le_refl _)).2
    have HW := Lib.hid hwf
    clear hf w0 hwf
    go_enter Try.func7, Try.ntmps7
    go_wp2_with fail
    refine (PA.octet_Number.calls K a1 r1 r2 _ F1.out).mono ?_
    rintro e w2 ⟨rfl, n2, rfl⟩
    go_wp2_with fail
    refine (PN.ciboriumref01_Number.calls K a1 r1 r2 _ F2.out).mono ?_
    rintro e w3 ⟨rfl, n3, rfl⟩
    have hB3 : Below w.heap.size w ((w.drewN n2).drewN n3) := pw_below_drewN (pw_below_drewN (Below.refl _ _) n2) n3
    generalize ((w.drewN n2).drewN n3) = w3 at *
    have HB3 := Lib.hid hB3
    clear hB3
    go_wp2_with fail
    refine (Digits.digits a0 _ HW.out.1 (by have := HW.out.2; omega)).mono ?_
    rintro e w4 ⟨⟨j, hj, hz, hn, rfl⟩, hB⟩
    have hj20 : j ≤ 100 := by
      rcases Nat.lt_or_ge 100 j with h | h
      · exact absurd (Int.ediv_eq_zero_of_lt HW.out.1 (Int.lt_of_le_of_lt HW.out.2 (by decide))) (hn 20 (by omega) (by omega))
      · exact h
    have F3 := Lib.hid (PureNum.refDigits j a0 hj hj20 HW.out.1 (by have := HW.out.2; omega) hz hn j (Nat.le_refl _))
    have HB4 : Hid (Below w.heap.size w w4) := HB3.out.trans (hB.mono HB3.out.size)
    clear hB hz hn HB3
    go_wp2_with fail
    refine (PA.ciboriumref01_Digits.calls j a0 _ _ F3.out).mono ?_
    rintro e w5 ⟨rfl, hB⟩
    have HB5 : Hid (Below w.heap.size w w5) := HB4.out.trans (hB.mono HB4.out.size)
    clear hB HB4
    go_wp2_with fail
    refine (Works.works _).mono ?_
    rintro e w6 ⟨rfl, hB⟩
    have HB6 : Hid (Below w.heap.size w w6) := HB5.out.trans (hB.mono HB5.out.size)
    clear hB HB5
    go_wp2
    go_ret
    exact ⟨rfl, HB6.out⟩
end Go.Proofs.Ytengdchgfhcdhaa.HOctetNumbers
