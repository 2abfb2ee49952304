/- What is said here: what Back of a key of AES makes of a block. -/
import Derived.Test.YtfbhbkcjnbpnlaaAes4
namespace Go.Proofs.Ytfbhbkcjnbpnlaa.Aes
set_option linter.unusedVariables false
set_option linter.unusedSimpArgs false
open Go.RowKit Go.Proofs.YtfbhbkcjnbpnlaaW.PrintWords Go.Proofs.YtfbhbkcjnbpnlaaW.PrintLast Go.Proofs.YtfbhbkcjnbpnlaaW.PrintMore
open Gf Gfi Poly
attribute [local go_sem ↓] ld23 st23 bd49
/-- One round back, and rounds. -/
def unroundS (K : Nat → B) (r : Nat) (st : Nat → B) : Nat → B := backS K (unshiftS (unmixR r (addS K r st)))
def bk (K b : Nat → B) : Nat → Nat → B
  | 0 => b
  | q + 1 => unroundS K (14 - q) (bk K b q)
def unstepF (K : Nat → B) (r i : Nat) (st : Nat → B) : Nat → B :=
  match i with
  | 0 => st
  | 1 => addS K r st
  | 2 => unmixR r (addS K r st)
  | 3 => unshiftS (unmixR r (addS K r st))
  | _ => unroundS K r st
set_option maxRecDepth 100000 in
set_option maxHeartbeats 2000000 in
theorem unblock_calls (K b : Nat → B) (w : World) :
    Calls Try.prog 12 #[.agg (cB 752 K), .agg (cB 16 b)] w fun e w' => e = .returned (.agg (cB 16 (addS K 0 (bk K b 14)))) ∧ Below w.heap.size w w' := by
  have hl := ld_b w K b
  have hb := bd_st b w.heap.size
  obtain ⟨HS0, HB0, HZ⟩ := at_start w K b 14
  go_enter Try.func12, Try.ntmps12
  have er : (stA b w.heap.size 0).setIfInBounds 17 (.int .i64 14) = stA b w.heap.size 14 := stA_setRound _ _ _ _
  go_wp2_with fail
  clear hl hb er
  generalize ((((w.alloc (Obj.cells (cB 752 K) 27)).alloc (Obj.cells (cB 16 b) 23)).alloc (Obj.cells #[Value.int IntKind.u8 0, Value.int IntKind.u8 0, Value.int IntKind.u8 0, Value.int IntKind.u8 0, Value.int IntKind.u8 0, Value.int IntKind.u8 0, Value.int IntKind.u8 0, Value.int IntKind.u8 0, Value.int IntKind.u8 0, Value.int IntKind.u8 0, Value.int IntKind.u8 0, Value.int IntKind.u8 0, Value.int IntKind.u8 0, Value.int IntKind.u8 0, Value.int IntKind.u8 0, Value.int IntKind.u8 0] 23))).alloc (.cells (stA b w.heap.size 14) 49) = w0 at *
  obtain ⟨s, hs⟩ : ∃ s, s = w.heap.size + 1 + 1 + 1 := ⟨_, rfl⟩
  obtain ⟨z, hz⟩ : ∃ z, z = w.heap.size + 1 + 1 := ⟨_, rfl⟩
  have HLT := Lib.hid (show z < s ∧ w.heap.size ≤ z ∧ w.heap.size ≤ s by omega)
  rw [← hs] at HS0 ⊢
  rw [← hz] at HZ ⊢
  generalize hkb : w.heap.size = kb at *
  have HKB := Lib.hid hkb
  clear hkb
  clear hs hz
  go_loopw [7, 14, 15, 16, 17, 18, 19, 20, 21, 22, 23, 24, 25, 26, 27, 28, 29, 30, 31, 32, 33, 34, 35] (fun v7 v14 v15 v16 v17 v18 v19 v20 v21 v22 v23 v24 v25 v26 v27 v28 v29 v30 v31 v32 v33 v34 v35 wr => ∃ (q r : Nat), q + r = 14 ∧ Hid (St wr s kb K (bk K b q) r) ∧ Hid (Blk.Is wr z #[.int .u8 0, .int .u8 0, .int .u8 0, .int .u8 0, .int .u8 0, .int .u8 0, .int .u8 0, .int .u8 0, .int .u8 0, .int .u8 0, .int .u8 0, .int .u8 0, .int .u8 0, .int .u8 0, .int .u8 0, .int .u8 0] 23) ∧ Hid (Below kb w wr)) (fun _ _ _ _ _ _ _ _ _ _ _ _ _ _ _ _ _ _ _ _ _ _ _ wr => rd wr s)
  case atStart => exact ⟨0, 14, by omega, HS0, HZ, HB0⟩
  case round =>
    clear HS0 HZ HB0
    obtain ⟨q, r, hq, HS, HZ, HB⟩ := hrel
    have x17 := HS.out.round
    have hf := HS.out.free 17
    obtain ⟨wo, rfl⟩ : ∃ wo, wo = wr := ⟨_, rfl⟩
    by_cases hlt : 1 ≤ r
    · obtain ⟨p, rfl⟩ : ∃ p, r = p + 1 := ⟨r - 1, by omega⟩
      have HQ := Lib.hid hq
      clear hlt hq
      go_wp2_with fail
      clear x17 hf
      have HG := Lib.hid (Blk.Is.new wo #[.func (.func 19) #[] #[], .func (.func 25) #[] #[], .func (.func 26) #[] #[], .func (.func 27) #[] #[]] 50)
      have HS1 := Lib.hid (HS.out.alloc (.cells #[.func (.func 19) #[] #[], .func (.func 25) #[] #[], .func (.func 26) #[] #[], .func (.func 27) #[] #[]] 50))
      have HZ1 := Lib.hid (HZ.out.alloc (.cells #[.func (.func 19) #[] #[], .func (.func 25) #[] #[], .func (.func 26) #[] #[], .func (.func 27) #[] #[]] 50))
      have HB1 := Lib.hid (HB.out.alloc (by have := HS.out.b.lt; have := HS.out.lt; omega) (.cells #[.func (.func 19) #[] #[], .func (.func 25) #[] #[], .func (.func 26) #[] #[], .func (.func 27) #[] #[]] 50))
      have HN := Lib.hid (show wo.heap.size ≠ s from fun e => by have := HS.out.b.lt; omega)
      have HRD := Lib.hid HS.out.rd
      generalize wo.alloc (.cells #[.func (.func 19) #[] #[], .func (.func 25) #[] #[], .func (.func 26) #[] #[], .func (.func 27) #[] #[]] 50) = wi at *
      generalize wo.heap.size = g at *
      clear HS HZ HB
      generalize decide ((1 : Int) ≤ (p : Int) + 1) = d20 at *
      generalize hst : bk K b q = st at *
      have HST := Lib.hid hst
      clear hst
      go_loopw [7, 28, 29, 30, 31, 32, 33, 34, 35] (fun v7 v28 v29 v30 v31 v32 v33 v34 v35 wl => ∃ (i : Nat), i ≤ 4 ∧ v28 = .int .i64 (i : Int) ∧ Hid (St wl s kb K (unstepF K (p + 1) i st) (p + 1)) ∧ Hid (Blk.Is wl g #[.func (.func 19) #[] #[], .func (.func 25) #[] #[], .func (.func 26) #[] #[], .func (.func 27) #[] #[]] 50) ∧ Hid (Blk.Is wl z #[.int .u8 0, .int .u8 0, .int .u8 0, .int .u8 0, .int .u8 0, .int .u8 0, .int .u8 0, .int .u8 0, .int .u8 0, .int .u8 0, .int .u8 0, .int .u8 0, .int .u8 0, .int .u8 0, .int .u8 0, .int .u8 0] 23) ∧ Hid (Below kb w wl)) (fun _ v28 _ _ _ _ _ _ _ _ => 4 - (intOf v28).toNat)
      case atStart => exact ⟨0, by omega, rfl, HS1, HG, HZ1, HB1⟩
      case round =>
        clear HS1 HG HZ1 HB1
        obtain ⟨i, hi, rfl, HS, HG, HZ, HB⟩ := hrel
        by_cases hlt : i < 4
        · have hcases : i = 0 ∨ i = 1 ∨ i = 2 ∨ i = 3 := by omega
          have c0 := HG.out.cell i
          rcases hcases with rfl | rfl | rfl | rfl
          · go_wp2_with fail
            refine (add_calls s kb _ K _ _ HS.out (by have := HQ.out; omega)).mono ?_
            rintro e w3 ⟨rfl, hS, hB⟩
            have HS3 := Lib.hid hS
            have HG3 := Lib.hid (hB.is HG.out HN.out)
            have HZ3 := Lib.hid (HZ.out.below hB.below HLT.out.1)
            have HB3 := Lib.hid (HB.out.trans (hB.below.mono HLT.out.2.2))
            clear hS hB HS HG HZ HB c0
            go_wp2_with fail
            go_roundw
            case rel => exact ⟨1, by omega, by go_num, HS3.out, HG3, HZ3, HB3⟩
            case measure => simp [intOf]
          · go_wp2_with fail
            refine (unmix_calls s kb _ K _ _ HS.out).mono ?_
            rintro e w3 ⟨rfl, hS, hB⟩
            have HS3 := Lib.hid hS
            have HG3 := Lib.hid (hB.is HG.out HN.out)
            have HZ3 := Lib.hid (HZ.out.below hB.below HLT.out.1)
            have HB3 := Lib.hid (HB.out.trans (hB.below.mono HLT.out.2.2))
            clear hS hB HS HG HZ HB c0
            go_wp2_with fail
            go_roundw
            case rel => exact ⟨2, by omega, by go_num, HS3.out, HG3, HZ3, HB3⟩
            case measure => simp [intOf]
          · go_wp2_with fail
            refine (unshift_calls s kb _ K _ _ HS.out).mono ?_
            rintro e w3 ⟨rfl, hS, hB⟩
            have HS3 := Lib.hid hS
            have HG3 := Lib.hid (hB.is HG.out HN.out)
            have HZ3 := Lib.hid (HZ.out.below hB.below HLT.out.1)
            have HB3 := Lib.hid (HB.out.trans (hB.below.mono HLT.out.2.2))
            clear hS hB HS HG HZ HB c0
            go_wp2_with fail
            go_roundw
            case rel => exact ⟨3, by omega, by go_num, HS3.out, HG3, HZ3, HB3⟩
            case measure => simp [intOf]
          · go_wp2_with fail
            refine (back_calls s kb _ K _ _ HS.out).mono ?_
            rintro e w3 ⟨rfl, hS, hB⟩
            have HS3 := Lib.hid hS
            have HG3 := Lib.hid (hB.is HG.out HN.out)
            have HZ3 := Lib.hid (HZ.out.below hB.below HLT.out.1)
            have HB3 := Lib.hid (HB.out.trans (hB.below.mono HLT.out.2.2))
            clear hS hB HS HG HZ HB c0
            go_wp2_with fail
            go_roundw
            case rel => exact ⟨4, by omega, by go_num, HS3.out, HG3, HZ3, HB3⟩
            case measure => simp [intOf]
        · obtain rfl : i = 4 := by omega
          have HNX : Hid (unstepF K (p + 1) 4 st = bk K b (q + 1)) := by show unroundS K (p + 1) st = unroundS K (14 - q) (bk K b q); rw [HST.out, show 14 - q = p + 1 from by have := HQ.out; omega]
          have x17 := HS.out.round
          have hf := HS.out.free 17
          have HS4 := Lib.hid (HS.out.setRound p)
          have HZ4 := Lib.hid (HZ.out.other (a := ⟨s, 17, none⟩) (fun e => by have := HLT.out.1; simp at e; omega) (.int .i64 (p : Int)))
          have HB4 := Lib.hid (HB.out.setCell (p := ⟨s, 17, none⟩) HLT.out.2.2 (.int .i64 (p : Int)))
          have hwp : wrap64 (p : Int) = (p : Int) := IntWalk.wrap64_in _ (by have := HQ.out; omega)
          clear HS HG HZ HB
          go_wp2_with fail
          go_roundw
          case rel => exact ⟨q + 1, p, by have := HQ.out; omega, HNX.out ▸ HS4, HZ4, HB4⟩
          case measure => rw [HS4.out.rd, HRD.out]; omega
    · obtain rfl : r = 0 := by omega
      obtain rfl : q = 14 := by omega
      have HS1 := Lib.hid (HS.out.setRound 0)
      have HZ1 := Lib.hid (HZ.out.other (a := ⟨s, 17, none⟩) (fun e => by have := HLT.out.1; simp at e; omega) (.int .i64 0))
      have HB1 := Lib.hid (HB.out.setCell (p := ⟨s, 17, none⟩) HLT.out.2.2 (.int .i64 0))
      clear HS HZ HB
      go_wp2_with fail
      refine (add_calls s kb 0 K _ _ HS1.out (by omega)).mono ?_
      rintro e w3 ⟨rfl, hS, hB⟩
      have HS := Lib.hid hS
      have HZ := Lib.hid (HZ1.out.below hB.below HLT.out.1)
      have HB := Lib.hid (HB1.out.trans (hB.below.mono HLT.out.2.2))
      clear hS hB HS1 HZ1 HB1 x17 hf
      have hl := HS.out.load
      have hst := Blk.store_row (P := Try.prog) (t := 23) (cB 16 (addS K 0 (bk K b 14))) HZ.out (by rw [cB_size]; kernel_rfl) (by rw [cB_size]; rfl) (cB_one _ _)
      have HR := Lib.hid (HZ.out.setRow (cB 16 (addS K 0 (bk K b 14))))
      have HB3 := Lib.hid (Blk.below_setRow HB.out HLT.out.2.1 (cB 16 (addS K 0 (bk K b 14))))
      go_wp2_with fail
      refine bodyPost_ret (results_cell_row rfl _ _ z 23 (cB 16 (addS K 0 (bk K b 14))) (0, 0) _ rfl HR.out Try.underlying23 rfl (by rw [cB_size]; kernel_rfl)) rfl ?_
      exact ⟨rfl, by rw [HKB.out]; exact HB3.out⟩
end Go.Proofs.Ytfbhbkcjnbpnlaa.Aes
