/- It is proved here that the law FieldEvals, called with any bytes and any place, answers true and leaves what was there alone. No condition. -/
import Derived.Test.YtaadeokgcacibaaRoom
import Derived.Test.YtaadeokgcacibaaAEv
namespace Go.Proofs.Ytaadeokgcacibaa.HFieldEvals
set_option linter.unusedVariables false
set_option linter.unusedSimpArgs false
open Go.RowKit Go.Proofs.Ytaadeokgcacibaa.PA Go.Proofs.YtaadeokgcacibaaW.PrintWords Go.Proofs.YtaadeokgcacibaaW.PrintLast Go.Proofs.YtaadeokgcacibaaW.PrintMore Go.Proofs.Ytaadeokgcacibaa.Gf Go.Proofs.Ytaadeokgcacibaa.Gfi Go.Proofs.Ytaadeokgcacibaa.Poly

/-- The anchor answers true. -/
theorem works_calls (w : World) : Calls Try.prog 10 #[] w fun e w' => e = .returned (.bool true) ∧ Below w.heap.size w w' :=
  ciboriumlaw03_works.calls 20 true w (AFn.works_f (by omega))

theorem law_far (A0 : Option Addr) (c0 n : Nat) (a1 : Int) (w : World) (h : 16384 < n) (hm : n ≤ 9223372036854775807) :
    Calls Try.prog 6 #[.slice A0 n c0, .int .u8 a1] w fun e w' => e = .returned (.bool true) ∧ Below w.heap.size w w' := by
  go_enter Try.func6, Try.ntmps6
  go_wp2_with fail
  refine (works_calls _).mono ?_
  rintro e w1 ⟨rfl, hb⟩
  go_wp2
  go_ret
  exact ⟨rfl, hb⟩

theorem law (A0 : Option Addr) (c0 : Nat) (l0 : List Int) (a1 : Int) (w : World) (hr0 : Kd.C (Kd.int .u8) w A0 l0.length l0) (hc0 : l0.length ≤ c0) (hm0 : l0.length ≤ maxLen) (y0 : l0.length * 1 ≤ 140737488351232) (hw0 : ∀ x ∈ l0, (Lit.int .u8 x).wf = true) (w1 : (Lit.int .u8 a1).wf = true) :
    Calls Try.prog 6 #[.slice A0 l0.length c0, .int .u8 a1] w fun e w' => e = .returned (.bool true) ∧ Below w.heap.size w w' := by
  by_cases hl : 16384 < l0.length
  · exact law_far A0 c0 l0.length a1 w hl (by unfold maxLen at hm0; omega)
  · obtain ⟨bs, rfl⟩ := exists_ints l0 hw0
    obtain ⟨x, rfl⟩ := B_of_wf w1
    have hbs : bs.length ≤ 16384 := by rw [ints_length] at hl; omega
    have HR := Lib.hid hr0
    have e1 := AEv.eval_f bs x (by omega) (k := bs.length + 100) (by omega)
    have e2 := AEv.ref_f bs x (by omega) (k := bs.length + 100) (by omega)
    have E1 := Lib.hid e1
    have E2 := Lib.hid e2
    have RC := Lib.hid (Room.roomy_calls A0 c0 (ints bs) w hr0 hc0 (by rw [ints_length]; omega))
    have hn : (ints bs).length ≤ 16384 := by rw [ints_length]; omega
    generalize ints bs = l at *
    clear hr0 hw0 hm0 y0 w1 e1 e2 hbs
    go_enter Try.func6, Try.ntmps6
    go_wp2_with fail
    refine RC.out.mono ?_
    rintro e w1 ⟨v, rfl, hroom, hb1⟩
    obtain ⟨A1, c1, hv, hc1, hr1⟩ := hroom.reads
    subst hv
    have Hroom := Lib.hid hroom
    have Hr1 := Lib.hid hr1
    have H0 := Lib.hid (Kd.C_below HR.out hb1)
    clear hroom hr1 RC
    go_wp2_with fail
    refine (field_Eval.calls _ A1 c1 l _ _ _ Hr1.out hc1 E1.out).mono ?_
    rintro e w2 ⟨rfl, ⟨n2, rfl⟩⟩
    go_wp2_with fail
    refine (ciboriumref03_Eval.calls _ A0 c0 l _ _ _ (Kd.C_drewN H0.out _) hc0 E2.out).mono ?_
    rintro e w3 ⟨rfl, ⟨n3, rfl⟩⟩
    go_wp2_with fail
    refine (Room.kept_calls _ _ A0 c0 l _ (Hroom.out.drewN _) (Kd.C_drewN H0.out _) hc0).mono ?_
    rintro e w4 ⟨rfl, ⟨n4, rfl⟩⟩
    go_wp2_with fail
    refine (works_calls _).mono ?_
    rintro e w5 ⟨rfl, hb5⟩
    go_wp2
    go_ret
    exact ⟨rfl, below_step (by repeat (first | exact hb1 | apply pw_below_drewN)) hb5⟩
end Go.Proofs.Ytaadeokgcacibaa.HFieldEvals
