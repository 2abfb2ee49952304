/- What is said here: the anchor works answers true. -/
import Derived.Test.YtfbhbkcjnbpnlaaAesW
namespace Go.Proofs.Ytfbhbkcjnbpnlaa.Aes
set_option linter.unusedVariables false
set_option linter.unusedSimpArgs false
open Go.RowKit Go.Proofs.YtfbhbkcjnbpnlaaW.PrintWords Go.Proofs.YtfbhbkcjnbpnlaaW.PrintLast Go.Proofs.YtfbhbkcjnbpnlaaW.PrintMore
open Gf Gfi Poly AesF
attribute [local go_sem ↓] ld23 st23 ld27 st27 bd22 bd23
/-- What is to be shown of the known block. -/
def Zero0 : Prop := bl (keyK z16) z16 14 0 = 0xdc#8 ∧ bl (keyK z16) z16 14 15 = 0x87#8
set_option maxRecDepth 100000 in
set_option maxHeartbeats 2000000 in
theorem works_of (hz : Zero0) (w : World) : Calls Try.prog 14 #[] w fun e w' => e = .returned (.bool true) ∧ Below w.heap.size w w' := by
  have hb32 := bd_zero32
  have hb16 := bd_zero16
  have hzk := zeroKey0
  have HZ := Lib.hid hz
  clear hz
  go_enter Try.func14, Try.ntmps14
  go_wp2_with fail
  refine (expand_calls z16 w).mono ?_
  rintro e w1 ⟨rfl, hB⟩
  have HRD := Lib.hid (keyK_ready z16)
  have HZ2 : Hid (bl (keyK z16) z16 14 0 = 0xdc#8 ∧ bl (keyK z16) z16 14 15 = 0x87#8) := HZ.out
  clear HZ
  generalize keyK z16 = K at *
  have hst := st27_new w1 K
  have HK := Lib.hid (Blk.Is.new w1 (cB 752 K) 27)
  have HB1 := Lib.hid (hB.alloc hB.size (.cells (cB 752 K) 27))
  have hld := ld_is HK.out
  have HSZ := Lib.hid hB.size
  clear hB
  go_wp2_with fail
  clear hst hld
  generalize w1.alloc (.cells (cB 752 K) 27) = w2 at *
  generalize w1.heap.size = gk at *
  refine (block_calls K z16 w2).mono ?_
  rintro e w3 ⟨rfl, hB⟩
  have HK3 := Lib.hid (HK.out.below hB HK.out.lt)
  have HB3 := Lib.hid (HB1.out.trans (hB.mono (by have := HK.out.lt; have := HSZ.out; omega)))
  have HBE := Lib.hid (eq16_true (back_block HRD.out z16))
  clear hB HK HB1
  generalize bl K z16 14 = c at *
  have hst := st_new w3 c
  have HC := Lib.hid (Blk.Is.new w3 (cB 16 c) 23)
  have HK4 := Lib.hid (HK3.out.alloc (.cells (cB 16 c) 23))
  have HB4 := Lib.hid (HB3.out.alloc (by have := HK3.out.lt; have := HSZ.out; omega) (.cells (cB 16 c) 23))
  clear HK3 HB3
  have e0 : (w3.alloc (.cells (cB 16 c) 23)).cell? ⟨w3.heap.size, 0, none⟩ = some (.int .u8 220) := by
    rw [HC.out.cell, cB_get 16 c 0 (by decide), HZ2.out.1]; rfl
  have e15 : (w3.alloc (.cells (cB 16 c) 23)).cell? ⟨w3.heap.size, 15, none⟩ = some (.int .u8 135) := by
    rw [HC.out.cell, cB_get 16 c 15 (by decide), HZ2.out.2]; rfl
  have hlk := ld_is HK4.out
  have hlc := ldb_is HC.out
  go_wp2_with fail
  clear hst e0 e15 hlk hlc
  generalize w3.alloc (.cells (cB 16 c) 23) = w4 at *
  refine (unblock_calls K c w4).mono ?_
  rintro e w5 ⟨rfl, hB⟩
  have HB5 := Lib.hid (HB4.out.trans (hB.mono (by have := HK4.out.lt; have := HSZ.out; omega)))
  clear hB
  generalize addS K 0 (bk K c 14) = d at *
  have heq := HBE.out
  iterate 6 (first | go_values | go_skip | go_guarded | go_step | go_upon | go_back | (simp only [Int.not_lt, Int.not_le] at *; go_simp) | (go_values <;> (try go_simp)))
  refine wp_eq (by rfl) (by rfl) (by rfl) ?_
  rw [heq]
  simp only [Act.put, List.setIfInBounds_toArray, List.set_cons_zero, List.set_cons_succ]
  go_wp2_with fail
  go_ret
  exact ⟨rfl, HB5.out⟩
end Go.Proofs.Ytfbhbkcjnbpnlaa.Aes
