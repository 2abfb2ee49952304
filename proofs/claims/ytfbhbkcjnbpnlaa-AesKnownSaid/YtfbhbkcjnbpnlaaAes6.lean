/- What is said here: the two tables that aes.boxes makes. -/
import Derived.Test.YtfbhbkcjnbpnlaaAes5
import Derived.Test.YtfbhbkcjnbpnlaaAesF
namespace Go.Proofs.Ytfbhbkcjnbpnlaa.Aes
set_option linter.unusedVariables false
set_option linter.unusedSimpArgs false
open Go.RowKit Go.Proofs.YtfbhbkcjnbpnlaaW.PrintWords Go.Proofs.YtfbhbkcjnbpnlaaW.PrintLast Go.Proofs.YtfbhbkcjnbpnlaaW.PrintMore
open Gf Gfi Poly AesF
theorem ld256 (x : Value) : Instr.loadAt 25 x = Blk.ld 25 x := rfl
theorem st256 (x v : Value) : Instr.storeAt 25 x v = Blk.st 25 x v := rfl
attribute [local go_sem ↓] ld256 st256
theorem zero256 (w : World) : (zeroValue 25).run Try.prog w = .ok (.agg (cB 256 (fun _ => 0#8))) w := by kernel_rfl
def subN : Nat → Nat → B
  | 0 => fun _ => 0#8
  | i + 1 => updB (subN i) i (sb (BitVec.ofNat 8 i))
def undoN : Nat → Nat → B
  | 0 => fun _ => 0#8
  | i + 1 => updB (undoN i) (sb (BitVec.ofNat 8 i)).toNat (BitVec.ofNat 8 i)
set_option maxRecDepth 100000 in
set_option maxHeartbeats 2000000 in
theorem boxes_calls (w : World) : Calls Try.prog 15 #[] w fun e w' => e = .returned (.tuple #[.agg (cB 256 (subN 256)), .agg (cB 256 (undoN 256))]) ∧ Below w.heap.size w w' := by
  have hz0 := zero256
  have e1 : (w.alloc (.cells (cB 256 (fun _ => 0#8)) 25)).heap.size = w.heap.size + 1 := by simp
  have HS0 := Lib.hid ((Blk.Is.new w (cB 256 (fun _ => 0#8)) 25).alloc (.cells (cB 256 (fun _ => 0#8)) 25))
  have HU0 := Lib.hid (Blk.Is.new (w.alloc (.cells (cB 256 (fun _ => 0#8)) 25)) (cB 256 (fun _ => 0#8)) 25)
  rw [e1] at HU0
  have HB0 := Lib.hid (((Below.refl _ w).alloc (Nat.le_refl _) (.cells (cB 256 (fun _ => 0#8)) 25)).alloc (by omega) (.cells (cB 256 (fun _ => 0#8)) 25))
  clear e1
  go_enter Try.func15, Try.ntmps15
  go_wp2_with fail
  clear hz0
  generalize (w.alloc (.cells (cB 256 (fun _ => 0#8)) 25)).alloc (.cells (cB 256 (fun _ => 0#8)) 25) = w0 at *
  generalize hg : w.heap.size = g at *
  have HG := Lib.hid hg
  clear hg
  go_loopw [2, 3, 4, 5, 6, 7, 8, 9, 10, 11, 12, 13, 14, 15, 16, 17, 18, 19, 20, 21, 22, 23, 24, 25, 26, 27, 28, 29, 30, 31, 32] (fun v2 v3 v4 v5 v6 v7 v8 v9 v10 v11 v12 v13 v14 v15 v16 v17 v18 v19 v20 v21 v22 v23 v24 v25 v26 v27 v28 v29 v30 v31 v32 wr => ∃ (i : Nat), i ≤ 256 ∧ v5 = .int .i64 (i : Int) ∧ Hid (Blk.Is wr g (cB 256 (subN i)) 25) ∧ Hid (Blk.Is wr (g + 1) (cB 256 (undoN i)) 25) ∧ Hid (Below g w wr)) (fun _ _ _ v5 _ _ _ _ _ _ _ _ _ _ _ _ _ _ _ _ _ _ _ _ _ _ _ _ _ _ _ _ => 256 - (intOf v5).toNat)
  case atStart => exact ⟨0, by omega, rfl, HS0, HU0, HB0⟩
  case round =>
    clear HS0 HU0 HB0
    obtain ⟨i, hi, rfl, HS, HU, HB⟩ := hrel
    obtain ⟨wo, rfl⟩ : ∃ wo, wo = wr := ⟨_, rfl⟩
    by_cases hlt : i < 256
    · have hx : IntKind.u8.wrap (i : Int) = ofB (BitVec.ofNat 8 i) := by
        show (i : Int) % 256 = _
        unfold ofB
        rw [BitVec.toNat_ofNat]
        omega
      have HX : Hid (BitVec.ofNat 8 i = BitVec.ofNat 8 i) := rfl
      go_wp2_with fail
      have HGS := Lib.hid (show g ≤ wo.heap.size by have := HB.out.size; have := HG.out; omega)
      refine (inv_calls _ wo).mono ?_
      rintro e w1 ⟨rfl, hB⟩
      have HS1 := Lib.hid (HS.out.below hB HS.out.lt)
      have HU1 := Lib.hid (HU.out.below hB HU.out.lt)
      have HB1 := Lib.hid (HB.out.trans (hB.mono HGS.out))
      clear HS HU HB hB HGS
      have hxor : ∀ a b : B, Go.bits .xor .u8 (ofB a) (ofB b) = ofB (a ^^^ b) := bits_xor
      have h99 : ∀ a : B, Go.bits .xor .u8 (ofB a) 99 = ofB (a ^^^ 0x63#8) := fun a => bits_xor a 0x63#8
      have HSB : Hid (sb (BitVec.ofNat 8 i) = sbox (inv (BitVec.ofNat 8 i))) := rfl
      generalize hy : inv (BitVec.ofNat 8 i) = y at *
      clear hy
      go_wp2_with fail
      refine (turn_calls1 y w1).mono ?_
      rintro e w' ⟨rfl, ⟨nd, rfl⟩⟩
      have HS2 := Lib.hid (HS1.out.drewN nd)
      have HU2 := Lib.hid (HU1.out.drewN nd)
      have HB2 := Lib.hid (pw_below_drewN HB1.out nd)
      clear HS1 HU1 HB1
      generalize w1.drewN nd = w2 at *
      go_wp2_with fail
      refine (turn_calls2 y w2).mono ?_
      rintro e w' ⟨rfl, ⟨nd, rfl⟩⟩
      have HS3 := Lib.hid (HS2.out.drewN nd)
      have HU3 := Lib.hid (HU2.out.drewN nd)
      have HB3 := Lib.hid (pw_below_drewN HB2.out nd)
      clear HS2 HU2 HB2
      generalize w2.drewN nd = w3 at *
      go_wp2_with fail
      refine (turn_calls3 y w3).mono ?_
      rintro e w' ⟨rfl, ⟨nd, rfl⟩⟩
      have HS4 := Lib.hid (HS3.out.drewN nd)
      have HU4 := Lib.hid (HU3.out.drewN nd)
      have HB4 := Lib.hid (pw_below_drewN HB3.out nd)
      clear HS3 HU3 HB3
      generalize w3.drewN nd = w4 at *
      go_wp2_with fail
      refine (turn_calls4 y w4).mono ?_
      rintro e w' ⟨rfl, ⟨nd, rfl⟩⟩
      have HS5 := Lib.hid (HS4.out.drewN nd)
      have HU5 := Lib.hid (HU4.out.drewN nd)
      have HB5 := Lib.hid (pw_below_drewN HB4.out nd)
      clear HS4 HU4 HB4
      generalize w4.drewN nd = w5 at *
      have HV : Hid (((((y ^^^ rot y 1) ^^^ rot y 2) ^^^ rot y 3) ^^^ rot y 4) ^^^ 0x63#8 = sb (BitVec.ofNat 8 i)) := HSB.out.symm
      have hv := HV.out
      generalize hx2 : sb (BitVec.ofNat 8 i) = x at *
      have HX2 := Lib.hid hx2
      clear hx2
      have hf1 := HS5.out.free i
      have hc1 : w5.cell? ⟨g, i, none⟩ = some (.int .u8 (ofB (subN i i))) := by rw [HS5.out.cell]; exact cB_get 256 _ i hlt
      have hc2 : w5.cell? ⟨g + 1, (ofB x).toNat, none⟩ = some (.int .u8 (ofB (undoN i x.toNat))) := by
        have e : (ofB x).toNat = x.toNat := by simp [ofB]
        rw [HU5.out.cell, e]; exact cB_get 256 _ _ x.isLt
      have hf2 := HU5.out.free (ofB x).toNat
      have hr1 := (ofB_range x).1
      have hr2 := (ofB_range x).2
      go_wp2_with fail
      have e : (ofB x).toNat = x.toNat := by simp [ofB]
      go_roundw
      case rel =>
        refine ⟨i + 1, by omega, by go_num, ?_, ?_, (HB5.out.setCell (Nat.le_refl _) _).setCell (by simp) _⟩
        · have h := (HS5.out.set i (.int .u8 (ofB x))).other (a := ⟨g + 1, (ofB x).toNat, none⟩) (by simp) (.int .u8 (ofB (BitVec.ofNat 8 i)))
          rw [cB_set, ← HX2.out] at h
          rw [← HX2.out]
          exact h
        · have h := (HU5.out.other (a := ⟨g, i, none⟩) (by simp) (.int .u8 (ofB x))).set (ofB x).toNat (.int .u8 (ofB (BitVec.ofNat 8 i)))
          rw [cB_set, e, ← HX2.out] at h
          rw [e, ← HX2.out]
          exact h
      case measure => simp [intOf]; omega
    · obtain rfl : i = 256 := by omega
      have ll := Blk.load_row HS.out.drew (P := Try.prog) (t := 25) Try.underlying25 rfl (by rw [cB_size]; kernel_rfl)
      have le := Blk.load_row HU.out.drew (P := Try.prog) (t := 25) Try.underlying25 rfl (by rw [cB_size]; kernel_rfl)
      have sl := Blk.store_same HS.out.drew (P := Try.prog) (t := 25) (by rw [cB_size]; kernel_rfl) (cB_one _ _)
      have se := Blk.store_same HU.out.drew (P := Try.prog) (t := 25) (by rw [cB_size]; kernel_rfl) (cB_one _ _)
      go_wp2_with fail
      go_region
      all_goals
        go_wp2_with fail
        refine bodyPost_ret (Blk.results2 (P := Try.prog) rfl _ (cs := cB 256 (subN 256)) (cs' := cB 256 (undoN 256)) rfl rfl HS.out.drew HU.out.drew Try.underlying25 rfl (by rw [cB_size]; kernel_rfl) Try.underlying25 rfl (by rw [cB_size]; kernel_rfl)) rfl ?_
        exact ⟨rfl, by rw [HG.out]; exact HB.out.drew⟩
end Go.Proofs.Ytfbhbkcjnbpnlaa.Aes
