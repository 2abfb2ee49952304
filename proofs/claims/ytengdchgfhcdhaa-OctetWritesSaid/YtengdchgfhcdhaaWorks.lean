/- What is said here: the law's anchor: a number is written, and read. -/
import Derived.Test.YtengdchgfhcdhaaReader3
import Derived.Test.YtengdchgfhcdhaaPut2
import Derived.Test.YtengdchgfhcdhaaHex
import Derived.Test.YtengdchgfhcdhaaPAx1
namespace Go.Proofs.Ytengdchgfhcdhaa.Works
set_option linter.unusedVariables false
set_option linter.unusedSimpArgs false
open Go.RowKit Go.Proofs.YtengdchgfhcdhaaW.PrintWords Go.Proofs.YtengdchgfhcdhaaW.PrintLast Go.Proofs.YtengdchgfhcdhaaW.PrintMore

set_option maxHeartbeats 1000000 in
theorem works (w : World) : Calls Try.prog 10 #[] w fun e w' => e = .returned (.bool true) ∧ Below w.heap.size w w' := by
  go_enter Try.func10, Try.ntmps10
  go_wp2_with fail
  refine (Reader.Read_calls _ 3 [1, 2, 7] _ (Row.lit w [1, 2, 7] 5 (by decide)) (by decide)).mono ?_
  rintro e w1 ⟨g, A, c, rfl, hI, hB⟩
  have HB1 : Hid (Below w.heap.size w w1) := ((Below.refl w.heap.size w).alloc (Nat.le_refl _) _).trans (hB.mono (by simp))
  have hg : w.heap.size ≤ g := Nat.le_trans (by simp) hI.base
  have HI := Lib.hid hI
  clear hI hB
  go_wp2_with fail
  refine (Reader.U16_calls g _ A c _ _ HI.out).mono ?_
  rintro e w2 ⟨rfl, hI, hO⟩
  rw [show Reader.num (Reader.St.takeL ⟨[1, 2, 7], 0, 0⟩ 2) % 65536 = 258 by decide +kernel]
  rw [show Reader.St.takeS ⟨[1, 2, 7], 0, 0⟩ 2 = ⟨[1, 2, 7], 2, 0⟩ from rfl] at hI
  have HI2 := Lib.hid hI
  have HB2 : Hid (Below w.heap.size w w2) := hO.step HB1.out hg (Nat.le_refl _)
  clear hI hO HI HB1
  go_wp2_with fail
  refine (Put.P16.calls _ 1 [97] 258 [97, 1, 2] _ (Row.lit w2 [97] 5 (by decide)) (by decide) (by decide +kernel)).mono ?_
  rintro e w3 ⟨v, rfl, hR, hB⟩
  have hR' := Row.of_R hR
  obtain ⟨A3, c3, rfl, hc3, hC3⟩ := hR'.reads
  have HC3 := Lib.hid hC3
  have HB3 : Hid (Below w.heap.size w w3) := (HB2.out.alloc HB2.out.size _).trans (hB.mono (Nat.le_trans HB2.out.size (by simp)))
  have HI3 : Hid (Reader.Is w3 _ g A c ⟨[1, 2, 7], 2, 0⟩) := (HI2.out.below ((Below.refl w2.heap.size w2).alloc (Nat.le_refl _) _)).below (hB.mono (Nat.le_refl _))
  clear hR hR' hC3 hB HI2 HB2
  go_wp2_with fail
  refine (Reader.Left_calls g _ A c _ _ HI3.out).mono ?_
  rintro e w4 ⟨rfl, n4, rfl⟩
  rw [show (((⟨[1, 2, 7], 2, 0⟩ : Reader.St).bs.length : Int) - ((⟨[1, 2, 7], 2, 0⟩ : Reader.St).at_ : Int)) = 1 from rfl]
  go_wp2_with fail
  refine (Reader.Err_calls g _ A c _ _ (HI3.out.drewN n4)).mono ?_
  rintro e w5 ⟨rfl, rfl⟩
  go_wp2_with fail
  refine (PA.ciboriumref00_EqBytes.calls A3 c3 [97, 1, 2] _ 3 [97, 1, 2] true _ (Kd.C_alloc (Kd.C_drewN HC3.out n4) _) hc3 (Row.lit (w3.drewN n4) [97, 1, 2] 5 (by decide)) (by decide) (by decide +kernel)).mono ?_
  rintro e w6 ⟨rfl, n6, rfl⟩
  go_wp2_with fail
  refine (Hex.hex A3 c3 [97, 1, 2] _ (Kd.C_drewN (Kd.C_alloc (Kd.C_drewN HC3.out n4) _) n6) (by decide) (by decide)).mono ?_
  rintro e w7 ⟨rfl, hB7⟩
  rw [show strOfNums (Hex.hexL [97, 1, 2]) = ⟨#[54, 49, 48, 49, 48, 50]⟩ by decide +kernel]
  have hB8 : Below w.heap.size w w7 := (pw_below_drewN ((pw_below_drewN HB3.out n4).alloc HB3.out.size _) n6).trans (hB7.mono (Nat.le_trans HB3.out.size (by simp)))
  clear hB7
  go_wp2
  go_ret
  exact ⟨rfl, hB8⟩
end Go.Proofs.Ytengdchgfhcdhaa.Works
