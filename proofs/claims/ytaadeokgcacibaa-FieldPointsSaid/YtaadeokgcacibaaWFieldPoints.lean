/- It is proved here that the law FieldPoints, called with any points, answers true and leaves what was there alone. No condition. -/
import Derived.Test.YtaadeokgcacibaaRoom
import Derived.Test.YtaadeokgcacibaaARefA
import Derived.Test.YtaadeokgcacibaaAtZero
namespace Go.Proofs.Ytaadeokgcacibaa.HFieldPoints
set_option linter.unusedVariables false
set_option linter.unusedSimpArgs false
open Go.RowKit Go.Proofs.Ytaadeokgcacibaa.PA Go.Proofs.YtaadeokgcacibaaW.PrintWords Go.Proofs.YtaadeokgcacibaaW.PrintLast Go.Proofs.YtaadeokgcacibaaW.PrintMore Go.Proofs.Ytaadeokgcacibaa.Gf Go.Proofs.Ytaadeokgcacibaa.Gfi Go.Proofs.Ytaadeokgcacibaa.Poly Go.Proofs.Ytaadeokgcacibaa.Lag

/-- The anchor answers true. -/
theorem works_calls (w : World) : Calls Try.prog 10 #[] w fun e w' => e = .returned (.bool true) ∧ Below w.heap.size w w' :=
  ciboriumlaw03_works.calls 20 true w (AFn.works_f (by omega))

set_option maxRecDepth 100000 in
theorem law_far (A0 A1 : Option Addr) (c0 c1 n m : Nat) (w : World) (h : 300 < n ∨ 300 < m) (hn : n ≤ 9223372036854775807) (hm : m ≤ 9223372036854775807) :
    Calls Try.prog 7 #[.slice A0 n c0, .slice A1 m c1] w fun e w' => e = .returned (.bool true) ∧ Below w.heap.size w w' := by
  by_cases h1 : 300 < n
  · go_enter Try.func7, Try.ntmps7
    go_wp2_with fail
    refine (works_calls _).mono ?_
    rintro e w1 ⟨rfl, hb⟩
    go_wp2
    go_ret
    exact ⟨rfl, hb⟩
  · have h2 : 300 < m := by omega
    clear h
    go_enter Try.func7, Try.ntmps7
    go_wp2_with fail
    refine (works_calls _).mono ?_
    rintro e w1 ⟨rfl, hb⟩
    go_wp2
    go_ret
    exact ⟨rfl, hb⟩

set_option maxRecDepth 100000 in
set_option maxHeartbeats 1000000 in
theorem law (A0 : Option Addr) (c0 : Nat) (l0 : List Int) (A1 : Option Addr) (c1 : Nat) (l1 : List Int) (w : World) (hr0 : Kd.C (Kd.int .u8) w A0 l0.length l0) (hc0 : l0.length ≤ c0) (hm0 : l0.length ≤ maxLen) (y0 : l0.length * 1 ≤ 140737488351232) (hw0 : ∀ x ∈ l0, (Lit.int .u8 x).wf = true)
    (hr1 : Kd.C (Kd.int .u8) w A1 l1.length l1) (hc1 : l1.length ≤ c1) (hm1 : l1.length ≤ maxLen) (y1 : l1.length * 1 ≤ 140737488351232) (hw1 : ∀ x ∈ l1, (Lit.int .u8 x).wf = true) :
    Calls Try.prog 7 #[.slice A0 l0.length c0, .slice A1 l1.length c1] w fun e w' => e = .returned (.bool true) ∧ Below w.heap.size w w' := by
  by_cases hl : 300 < l0.length ∨ 300 < l1.length
  · exact law_far A0 A1 c0 c1 l0.length l1.length w hl (by omega) (by omega)
  · obtain ⟨xs, rfl⟩ := exists_ints l0 hw0
    obtain ⟨ys, rfl⟩ := exists_ints l1 hw1
    have hn0 : (ints xs).length ≤ 300 := by omega
    have hn1 : (ints ys).length ≤ 300 := by omega
    have hx : xs.length ≤ 300 := by rw [ints_length] at hn0; omega
    have hy : ys.length ≤ 300 := by rw [ints_length] at hn1; omega
    obtain ⟨k, hk⟩ := ARefA.atZero_f xs ys (by omega)
    have hk2 : ciboriumref03_AtZero.f k (ints xs) (ints ys) = some ((AtZero.res xs ys).1, (AtZero.res xs ys).2) := hk
    have RF := Lib.hid (fun w A c B d h1 h2 h3 h4 => ciboriumref03_AtZero.calls k A c (ints xs) B d (ints ys) (AtZero.res xs ys).1 (AtZero.res xs ys).2 w h1 h2 h3 h4 hk2)
    have AZ := Lib.hid (fun w A c B d h1 h2 => AtZero.calls xs ys A B c d w h1 h2 (by omega) (by omega))
    have RA := Lib.hid (Room.roomy_calls A0 c0 (ints xs) w hr0 hc0 (by omega))
    have RB := Lib.hid (fun w h => Room.roomy_calls A1 c1 (ints ys) w h hc1 (by omega))
    have H0 := Lib.hid hr0
    have H1 := Lib.hid hr1
    generalize ints xs = l at *
    generalize ints ys = m at *
    generalize (AtZero.res xs ys).1 = r1 at *
    generalize (AtZero.res xs ys).2 = r2 at *
    clear hr0 hr1 hw0 hw1 hm0 hm1 y0 y1 hk hk2 hx hy hl
    go_enter Try.func7, Try.ntmps7
    go_wp2_with fail
    refine RA.out.mono ?_
    rintro e w1 ⟨v, rfl, hroom, hb1⟩
    obtain ⟨Aa, ca, hv, hca, hra⟩ := hroom.reads
    subst hv
    have Ra := Lib.hid hroom
    clear RA hroom
    have HB1 := Lib.hid hb1
    go_wp2_with fail
    refine (RB.out w1 (Kd.C_below H1.out HB1.out)).mono ?_
    rintro e w2 ⟨v, rfl, hroom, hb2⟩
    obtain ⟨Ab, cb, hv, hcb, hrb⟩ := hroom.reads
    subst hv
    have Rb := Lib.hid hroom
    clear RB hroom
    have HB2 := Lib.hid (below_step HB1.out hb2)
    have Ra2 := Lib.hid (Ra.out.below hb2)
    have hra2 := Lib.hid (Kd.C_below hra hb2)
    clear Ra hra hb2 hb1 HB1
    have Hrb := Lib.hid hrb
    clear hrb
    go_wp2_with fail
    refine (AZ.out w2 Aa ca Ab cb hra2.out Hrb.out).mono ?_
    rintro e w3 ⟨rfl, hb3⟩
    have HB3 := Lib.hid (below_step HB2.out hb3)
    have Ra3 := Lib.hid (Ra2.out.below hb3)
    have Rb3 := Lib.hid (Rb.out.below hb3)
    clear hb3 HB2 Ra2 Rb AZ hra2 Hrb
    go_wp2_with fail
    refine (RF.out w3 A0 c0 A1 c1 (Kd.C_below H0.out HB3.out) hc0 (Kd.C_below H1.out HB3.out) hc1).mono ?_
    rintro e w4 ⟨rfl, ⟨n4, rfl⟩⟩
    clear RF
    go_wp2_with fail
    refine (Room.kept_calls _ _ A0 c0 l _ (Ra3.out.drewN _) (Kd.C_drewN (Kd.C_below H0.out HB3.out) _) hc0).mono ?_
    rintro e w4 ⟨rfl, ⟨n5, rfl⟩⟩
    go_wp2_with fail
    refine (Room.kept_calls _ _ A1 c1 m _ (Rb3.out.drewN _) (Kd.C_drewN (Kd.C_below H1.out HB3.out) _) hc1).mono ?_
    rintro e w4 ⟨rfl, ⟨n6, rfl⟩⟩
    go_wp2_with fail
    refine (works_calls _).mono ?_
    rintro e w5 ⟨rfl, hb5⟩
    go_wp2
    go_ret
    exact ⟨rfl, below_step (by repeat (first | exact HB3.out | apply pw_below_drewN)) hb5⟩
end Go.Proofs.Ytaadeokgcacibaa.HFieldPoints
