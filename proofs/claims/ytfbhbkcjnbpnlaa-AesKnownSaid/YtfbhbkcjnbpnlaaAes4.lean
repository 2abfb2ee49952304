/- What is said here: what Block and Back of a key of AES make of a block. -/
import Derived.Test.YtfbhbkcjnbpnlaaAes3
namespace Go.Proofs.Ytfbhbkcjnbpnlaa.Aes
set_option linter.unusedVariables false
set_option linter.unusedSimpArgs false
open Go.RowKit Go.Proofs.YtfbhbkcjnbpnlaaW.PrintWords Go.Proofs.YtfbhbkcjnbpnlaaW.PrintLast Go.Proofs.YtfbhbkcjnbpnlaaW.PrintMore
open Gf Gfi Poly
/-- Building, under a name that the walk does not lay open. -/
def bd (t : TypeId) (ps : Array (Nat × Value)) : Sem Value := Instr.build t ps
theorem bd49 (ps : Array (Nat × Value)) : Instr.build 49 ps = bd 49 ps := rfl
attribute [local go_sem ↓] ld23 st23 bd49
set_option maxRecDepth 100000 in
theorem bd_st (b : Nat → B) (kb : Nat) (W : World) : (bd 49 #[(0, .agg (cB 16 b)), (1, .pointer (some ⟨kb, 0, none⟩))]).run Try.prog W = .ok (.agg (stA b kb 0)) W := by kernel_rfl

theorem ld_b (w : World) (K b : Nat → B) : (Blk.ld 23 (.pointer (some ⟨w.heap.size + 1, 0, none⟩))).run Try.prog ((((w.alloc (Obj.cells (cB 752 K) 27)).alloc (Obj.cells (cB 16 b) 23)).alloc (Obj.cells #[Value.int IntKind.u8 0, Value.int IntKind.u8 0, Value.int IntKind.u8 0, Value.int IntKind.u8 0, Value.int IntKind.u8 0, Value.int IntKind.u8 0, Value.int IntKind.u8 0, Value.int IntKind.u8 0, Value.int IntKind.u8 0, Value.int IntKind.u8 0, Value.int IntKind.u8 0, Value.int IntKind.u8 0, Value.int IntKind.u8 0, Value.int IntKind.u8 0, Value.int IntKind.u8 0, Value.int IntKind.u8 0] 23))) = .ok (.agg (cB 16 b)) ((((w.alloc (Obj.cells (cB 752 K) 27)).alloc (Obj.cells (cB 16 b) 23)).alloc (Obj.cells #[Value.int IntKind.u8 0, Value.int IntKind.u8 0, Value.int IntKind.u8 0, Value.int IntKind.u8 0, Value.int IntKind.u8 0, Value.int IntKind.u8 0, Value.int IntKind.u8 0, Value.int IntKind.u8 0, Value.int IntKind.u8 0, Value.int IntKind.u8 0, Value.int IntKind.u8 0, Value.int IntKind.u8 0, Value.int IntKind.u8 0, Value.int IntKind.u8 0, Value.int IntKind.u8 0, Value.int IntKind.u8 0] 23))) := by
  have h := (Blk.Is.new (w.alloc (.cells (cB 752 K) 27)) (cB 16 b) 23).alloc (.cells #[Value.int IntKind.u8 0, Value.int IntKind.u8 0, Value.int IntKind.u8 0, Value.int IntKind.u8 0, Value.int IntKind.u8 0, Value.int IntKind.u8 0, Value.int IntKind.u8 0, Value.int IntKind.u8 0, Value.int IntKind.u8 0, Value.int IntKind.u8 0, Value.int IntKind.u8 0, Value.int IntKind.u8 0, Value.int IntKind.u8 0, Value.int IntKind.u8 0, Value.int IntKind.u8 0, Value.int IntKind.u8 0] 23)
  have e : (w.alloc (.cells (cB 752 K) 27)).heap.size = w.heap.size + 1 := by simp
  rw [e] at h
  exact ld_mid h 23 0 16 b _ (fun j hj => by rw [Nat.zero_add]; exact cB_get 16 b j hj) Try.underlying23 rfl (by kernel_rfl)
theorem at_start (w : World) (K b : Nat → B) (r : Nat) : Hid (St (((((w.alloc (Obj.cells (cB 752 K) 27)).alloc (Obj.cells (cB 16 b) 23)).alloc (Obj.cells #[Value.int IntKind.u8 0, Value.int IntKind.u8 0, Value.int IntKind.u8 0, Value.int IntKind.u8 0, Value.int IntKind.u8 0, Value.int IntKind.u8 0, Value.int IntKind.u8 0, Value.int IntKind.u8 0, Value.int IntKind.u8 0, Value.int IntKind.u8 0, Value.int IntKind.u8 0, Value.int IntKind.u8 0, Value.int IntKind.u8 0, Value.int IntKind.u8 0, Value.int IntKind.u8 0, Value.int IntKind.u8 0] 23))).alloc (.cells (stA b w.heap.size r) 49)) (w.heap.size + 1 + 1 + 1) w.heap.size K b r)
    ∧ Hid (Below w.heap.size w (((((w.alloc (Obj.cells (cB 752 K) 27)).alloc (Obj.cells (cB 16 b) 23)).alloc (Obj.cells #[Value.int IntKind.u8 0, Value.int IntKind.u8 0, Value.int IntKind.u8 0, Value.int IntKind.u8 0, Value.int IntKind.u8 0, Value.int IntKind.u8 0, Value.int IntKind.u8 0, Value.int IntKind.u8 0, Value.int IntKind.u8 0, Value.int IntKind.u8 0, Value.int IntKind.u8 0, Value.int IntKind.u8 0, Value.int IntKind.u8 0, Value.int IntKind.u8 0, Value.int IntKind.u8 0, Value.int IntKind.u8 0] 23))).alloc (.cells (stA b w.heap.size r) 49)))
    ∧ Hid (Blk.Is (((((w.alloc (Obj.cells (cB 752 K) 27)).alloc (Obj.cells (cB 16 b) 23)).alloc (Obj.cells #[Value.int IntKind.u8 0, Value.int IntKind.u8 0, Value.int IntKind.u8 0, Value.int IntKind.u8 0, Value.int IntKind.u8 0, Value.int IntKind.u8 0, Value.int IntKind.u8 0, Value.int IntKind.u8 0, Value.int IntKind.u8 0, Value.int IntKind.u8 0, Value.int IntKind.u8 0, Value.int IntKind.u8 0, Value.int IntKind.u8 0, Value.int IntKind.u8 0, Value.int IntKind.u8 0, Value.int IntKind.u8 0] 23))).alloc (.cells (stA b w.heap.size r) 49)) (w.heap.size + 1 + 1) #[Value.int IntKind.u8 0, Value.int IntKind.u8 0, Value.int IntKind.u8 0, Value.int IntKind.u8 0, Value.int IntKind.u8 0, Value.int IntKind.u8 0, Value.int IntKind.u8 0, Value.int IntKind.u8 0, Value.int IntKind.u8 0, Value.int IntKind.u8 0, Value.int IntKind.u8 0, Value.int IntKind.u8 0, Value.int IntKind.u8 0, Value.int IntKind.u8 0, Value.int IntKind.u8 0, Value.int IntKind.u8 0] 23) := by
  have e1 : (w.alloc (.cells (cB 752 K) 27)).heap.size = w.heap.size + 1 := by simp
  have e2 : ((w.alloc (.cells (cB 752 K) 27)).alloc (.cells (cB 16 b) 23)).heap.size = w.heap.size + 1 + 1 := by simp
  have e3 : ((((w.alloc (Obj.cells (cB 752 K) 27)).alloc (Obj.cells (cB 16 b) 23)).alloc (Obj.cells #[Value.int IntKind.u8 0, Value.int IntKind.u8 0, Value.int IntKind.u8 0, Value.int IntKind.u8 0, Value.int IntKind.u8 0, Value.int IntKind.u8 0, Value.int IntKind.u8 0, Value.int IntKind.u8 0, Value.int IntKind.u8 0, Value.int IntKind.u8 0, Value.int IntKind.u8 0, Value.int IntKind.u8 0, Value.int IntKind.u8 0, Value.int IntKind.u8 0, Value.int IntKind.u8 0, Value.int IntKind.u8 0] 23))).heap.size = w.heap.size + 1 + 1 + 1 := by simp
  have h0 := Blk.Is.new w (cB 752 K) 27
  have h2 := (Blk.Is.new ((w.alloc (.cells (cB 752 K) 27)).alloc (.cells (cB 16 b) 23)) #[Value.int IntKind.u8 0, Value.int IntKind.u8 0, Value.int IntKind.u8 0, Value.int IntKind.u8 0, Value.int IntKind.u8 0, Value.int IntKind.u8 0, Value.int IntKind.u8 0, Value.int IntKind.u8 0, Value.int IntKind.u8 0, Value.int IntKind.u8 0, Value.int IntKind.u8 0, Value.int IntKind.u8 0, Value.int IntKind.u8 0, Value.int IntKind.u8 0, Value.int IntKind.u8 0, Value.int IntKind.u8 0] 23).alloc (.cells (stA b w.heap.size r) 49)
  have h3 := Blk.Is.new ((((w.alloc (Obj.cells (cB 752 K) 27)).alloc (Obj.cells (cB 16 b) 23)).alloc (Obj.cells #[Value.int IntKind.u8 0, Value.int IntKind.u8 0, Value.int IntKind.u8 0, Value.int IntKind.u8 0, Value.int IntKind.u8 0, Value.int IntKind.u8 0, Value.int IntKind.u8 0, Value.int IntKind.u8 0, Value.int IntKind.u8 0, Value.int IntKind.u8 0, Value.int IntKind.u8 0, Value.int IntKind.u8 0, Value.int IntKind.u8 0, Value.int IntKind.u8 0, Value.int IntKind.u8 0, Value.int IntKind.u8 0] 23))) (stA b w.heap.size r) 49
  rw [e2] at h2
  rw [e3] at h3
  refine ⟨⟨h3, ((h0.alloc _).alloc _).alloc _, by omega⟩, ?_, h2⟩
  exact ((((Below.refl _ w).alloc (Nat.le_refl _) _).alloc (by omega) _).alloc (by omega) _).alloc (by omega) _

/-- One round, and rounds. -/
def roundS (K : Nat → B) (r : Nat) (st : Nat → B) : Nat → B := addS K r (mixR r (shiftS (swapS K st)))
def bl (K b : Nat → B) : Nat → Nat → B
  | 0 => addS K 0 b
  | r + 1 => roundS K (r + 1) (bl K b r)
def stepF (K : Nat → B) (r i : Nat) (st : Nat → B) : Nat → B :=
  match i with
  | 0 => st
  | 1 => swapS K st
  | 2 => shiftS (swapS K st)
  | 3 => mixR r (shiftS (swapS K st))
  | _ => roundS K r st
def rd (W : World) (s : Nat) : Nat := match W.cell? ⟨s, 17, none⟩ with
  | some v => (intOf v).toNat
  | none => 0
theorem St.rd {W : World} {s kb r : Nat} {K st : Nat → B} (h : St W s kb K st r) : rd W s = r := by
  unfold Aes.rd
  rw [h.round]
  simp [intOf]
theorem St.setRound {W : World} {s kb r : Nat} {K st : Nat → B} (h : St W s kb K st r) (r' : Nat) : St (W.setCell ⟨s, 17, none⟩ (.int .i64 (r' : Int))) s kb K st r' :=
  ⟨by rw [← stA_setRound st kb r r']; exact h.b.set 17 _, h.k.other (fun e => by have := h.lt; simp at e; omega) _, h.lt⟩
set_option maxRecDepth 100000 in
set_option maxHeartbeats 2000000 in
theorem block_calls (K b : Nat → B) (w : World) :
    Calls Try.prog 10 #[.agg (cB 752 K), .agg (cB 16 b)] w fun e w' => e = .returned (.agg (cB 16 (bl K b 14))) ∧ Below w.heap.size w w' := by
  have hl := ld_b w K b
  have hb := bd_st b w.heap.size
  obtain ⟨HS0, HB0, HZ⟩ := at_start w K b 0
  go_enter Try.func10, Try.ntmps10
  go_wp2_with fail
  clear hl hb
  generalize ((((w.alloc (Obj.cells (cB 752 K) 27)).alloc (Obj.cells (cB 16 b) 23)).alloc (Obj.cells #[Value.int IntKind.u8 0, Value.int IntKind.u8 0, Value.int IntKind.u8 0, Value.int IntKind.u8 0, Value.int IntKind.u8 0, Value.int IntKind.u8 0, Value.int IntKind.u8 0, Value.int IntKind.u8 0, Value.int IntKind.u8 0, Value.int IntKind.u8 0, Value.int IntKind.u8 0, Value.int IntKind.u8 0, Value.int IntKind.u8 0, Value.int IntKind.u8 0, Value.int IntKind.u8 0, Value.int IntKind.u8 0] 23))).alloc (.cells (stA b w.heap.size 0) 49) = w0 at *
  obtain ⟨s, hs⟩ : ∃ s, s = w.heap.size + 1 + 1 + 1 := ⟨_, rfl⟩
  obtain ⟨z, hz⟩ : ∃ z, z = w.heap.size + 1 + 1 := ⟨_, rfl⟩
  have HLT := Lib.hid (show z < s ∧ w.heap.size ≤ z ∧ w.heap.size ≤ s by omega)
  rw [← hs] at HS0 ⊢
  rw [← hz] at HZ ⊢
  generalize hkb : w.heap.size = kb at *
  have HKB := Lib.hid hkb
  clear hkb
  clear hs hz
  refine (add_calls s kb 0 K b _ HS0.out (by omega)).mono ?_
  rintro e w1 ⟨rfl, hS, hB⟩
  have HS1 := Lib.hid hS
  have HZ1 := Lib.hid (HZ.out.below hB.below HLT.out.1)
  have HB1 := Lib.hid (HB0.out.trans (hB.below.mono HLT.out.2.2))
  clear hS hB HS0 HZ HB0
  have x17 := HS1.out.round
  have hf := HS1.out.free 17
  go_wp2_with fail
  clear x17 hf
  have HS2 := Lib.hid (HS1.out.setRound 1)
  have HZ2 := Lib.hid (HZ1.out.other (a := ⟨s, 17, none⟩) (fun e => by have := HLT.out.1; simp at e; omega) (.int .i64 1))
  have HB2 := Lib.hid (HB1.out.setCell (p := ⟨s, 17, none⟩) HLT.out.2.2 (.int .i64 1))
  clear HS1 HZ1 HB1
  generalize w1.setCell ⟨s, 17, none⟩ (.int .i64 1) = w2 at *
  go_loopw [7, 16, 17, 18, 19, 20, 21, 22, 23, 24, 25, 26, 27, 28, 29, 30, 31, 32, 33, 34, 35, 36, 37] (fun v7 v16 v17 v18 v19 v20 v21 v22 v23 v24 v25 v26 v27 v28 v29 v30 v31 v32 v33 v34 v35 v36 v37 wr => ∃ (q : Nat), q ≤ 14 ∧ Hid (St wr s kb K (bl K b q) (q + 1)) ∧ Hid (Blk.Is wr z #[.int .u8 0, .int .u8 0, .int .u8 0, .int .u8 0, .int .u8 0, .int .u8 0, .int .u8 0, .int .u8 0, .int .u8 0, .int .u8 0, .int .u8 0, .int .u8 0, .int .u8 0, .int .u8 0, .int .u8 0, .int .u8 0] 23) ∧ Hid (Below kb w wr)) (fun _ _ _ _ _ _ _ _ _ _ _ _ _ _ _ _ _ _ _ _ _ _ _ wr => 15 - rd wr s)
  case atStart => exact ⟨0, by omega, HS2, HZ2, HB2⟩
  case round =>
    clear HS2 HZ2 HB2
    obtain ⟨q, hq, HS, HZ, HB⟩ := hrel
    have x17 := HS.out.round
    have hf := HS.out.free 17
    obtain ⟨wo, rfl⟩ : ∃ wo, wo = wr := ⟨_, rfl⟩
    by_cases hlt : q < 14
    · go_wp2_with fail
      clear hlt x17 hf
      have HQ := Lib.hid (show q + 1 ≤ 14 by omega)
      have HG := Lib.hid (Blk.Is.new wo #[.func (.func 20) #[] #[], .func (.func 21) #[] #[], .func (.func 22) #[] #[], .func (.func 19) #[] #[]] 50)
      have HS1 := Lib.hid (HS.out.alloc (.cells #[.func (.func 20) #[] #[], .func (.func 21) #[] #[], .func (.func 22) #[] #[], .func (.func 19) #[] #[]] 50))
      have HZ1 := Lib.hid (HZ.out.alloc (.cells #[.func (.func 20) #[] #[], .func (.func 21) #[] #[], .func (.func 22) #[] #[], .func (.func 19) #[] #[]] 50))
      have HB1 := Lib.hid (HB.out.alloc (by have := HS.out.b.lt; have := HS.out.lt; omega) (.cells #[.func (.func 20) #[] #[], .func (.func 21) #[] #[], .func (.func 22) #[] #[], .func (.func 19) #[] #[]] 50))
      have HN := Lib.hid (show wo.heap.size ≠ s from fun e => by have := HS.out.b.lt; omega)
      have HRD := Lib.hid HS.out.rd
      generalize wo.alloc (.cells #[.func (.func 20) #[] #[], .func (.func 21) #[] #[], .func (.func 22) #[] #[], .func (.func 19) #[] #[]] 50) = wi at *
      generalize wo.heap.size = g at *
      clear HS HZ HB
      generalize decide ((q : Int) + 1 ≤ 14) = d20 at *
      generalize hst : bl K b q = st at *
      have HST := Lib.hid hst
      clear hst
      go_loopw [7, 30, 31, 32, 33, 34, 35, 36, 37] (fun v7 v30 v31 v32 v33 v34 v35 v36 v37 wl => ∃ (i : Nat), i ≤ 4 ∧ v30 = .int .i64 (i : Int) ∧ Hid (St wl s kb K (stepF K (q + 1) i st) (q + 1)) ∧ Hid (Blk.Is wl g #[.func (.func 20) #[] #[], .func (.func 21) #[] #[], .func (.func 22) #[] #[], .func (.func 19) #[] #[]] 50) ∧ Hid (Blk.Is wl z #[.int .u8 0, .int .u8 0, .int .u8 0, .int .u8 0, .int .u8 0, .int .u8 0, .int .u8 0, .int .u8 0, .int .u8 0, .int .u8 0, .int .u8 0, .int .u8 0, .int .u8 0, .int .u8 0, .int .u8 0, .int .u8 0] 23) ∧ Hid (Below kb w wl)) (fun _ v30 _ _ _ _ _ _ _ _ => 4 - (intOf v30).toNat)
      case atStart => exact ⟨0, by omega, rfl, HS1, HG, HZ1, HB1⟩
      case round =>
        clear HS1 HG HZ1 HB1
        obtain ⟨i, hi, rfl, HS, HG, HZ, HB⟩ := hrel
        by_cases hlt : i < 4
        · have hcases : i = 0 ∨ i = 1 ∨ i = 2 ∨ i = 3 := by omega
          have c0 := HG.out.cell i
          rcases hcases with rfl | rfl | rfl | rfl
          · go_wp2_with fail
            refine (swap_calls s kb _ K _ _ HS.out).mono ?_
            rintro e w3 ⟨rfl, hS, hB⟩
            have HS3 := Lib.hid hS
            have HG3 := Lib.hid (hB.is HG.out HN.out)
            have HZ3 := Lib.hid (HZ.out.below hB.below HLT.out.1)
            have HB3 := Lib.hid (HB.out.trans (hB.below.mono HLT.out.2.2))
            clear hS hB HS HG HZ HB c0
            go_wp2_with fail
            go_roundw
            case rel => exact ⟨1, by omega, by go_num, HS3.out, HG3, HZ3, HB3⟩
            case measure => simp [intOf]
          · go_wp2_with fail
            refine (shift_calls s kb _ K _ _ HS.out).mono ?_
            rintro e w3 ⟨rfl, hS, hB⟩
            have HS3 := Lib.hid hS
            have HG3 := Lib.hid (hB.is HG.out HN.out)
            have HZ3 := Lib.hid (HZ.out.below hB.below HLT.out.1)
            have HB3 := Lib.hid (HB.out.trans (hB.below.mono HLT.out.2.2))
            clear hS hB HS HG HZ HB c0
            go_wp2_with fail
            go_roundw
            case rel => exact ⟨2, by omega, by go_num, HS3.out, HG3, HZ3, HB3⟩
            case measure => simp [intOf]
          · go_wp2_with fail
            refine (mix_any s kb _ K _ _ HS.out).mono ?_
            rintro e w3 ⟨rfl, hS, hB⟩
            have HS3 := Lib.hid hS
            have HG3 := Lib.hid (hB.is HG.out HN.out)
            have HZ3 := Lib.hid (HZ.out.below hB.below HLT.out.1)
            have HB3 := Lib.hid (HB.out.trans (hB.below.mono HLT.out.2.2))
            clear hS hB HS HG HZ HB c0
            go_wp2_with fail
            go_roundw
            case rel => exact ⟨3, by omega, by go_num, HS3.out, HG3, HZ3, HB3⟩
            case measure => simp [intOf]
          · go_wp2_with fail
            refine (add_calls s kb _ K _ _ HS.out HQ.out).mono ?_
            rintro e w3 ⟨rfl, hS, hB⟩
            have HS3 := Lib.hid hS
            have HG3 := Lib.hid (hB.is HG.out HN.out)
            have HZ3 := Lib.hid (HZ.out.below hB.below HLT.out.1)
            have HB3 := Lib.hid (HB.out.trans (hB.below.mono HLT.out.2.2))
            clear hS hB HS HG HZ HB c0
            go_wp2_with fail
            go_roundw
            case rel => exact ⟨4, by omega, by go_num, HS3.out, HG3, HZ3, HB3⟩
            case measure => simp [intOf]
        · obtain rfl : i = 4 := by omega
          have x17 := HS.out.round
          have hf := HS.out.free 17
          have HS4 := Lib.hid (HS.out.setRound (q + 2))
          have HZ4 := Lib.hid (HZ.out.other (a := ⟨s, 17, none⟩) (fun e => by have := HLT.out.1; simp at e; omega) (.int .i64 ((q + 2 : Nat) : Int)))
          have HB4 := Lib.hid (HB.out.setCell (p := ⟨s, 17, none⟩) HLT.out.2.2 (.int .i64 ((q + 2 : Nat) : Int)))
          have e2 : ((q + 2 : Nat) : Int) = (q : Int) + 1 + 1 := by omega
          rw [e2] at HS4 HZ4 HB4
          clear HS HG HZ HB e2
          go_wp2_with fail
          go_roundw
          case rel => exact ⟨q + 1, by omega, by rw [← HST.out] at HS4; exact HS4, HZ4, HB4⟩
          case measure => rw [HS4.out.rd, HRD.out]; omega
    · obtain rfl : q = 14 := by omega
      have hl := HS.out.load
      have hst := Blk.store_row (P := Try.prog) (t := 23) (cB 16 (bl K b 14)) HZ.out (by rw [cB_size]; kernel_rfl) (by rw [cB_size]; rfl) (cB_one _ _)
      have HR := Lib.hid (HZ.out.setRow (cB 16 (bl K b 14)))
      have HB3 := Lib.hid (Blk.below_setRow HB.out HLT.out.2.1 (cB 16 (bl K b 14)))
      go_wp2_with fail
      refine bodyPost_ret (results_cell_row rfl _ _ z 23 (cB 16 (bl K b 14)) (0, 0) _ rfl HR.out Try.underlying23 rfl (by rw [cB_size]; kernel_rfl)) rfl ?_
      exact ⟨rfl, by rw [HKB.out]; exact HB3.out⟩
end Go.Proofs.Ytfbhbkcjnbpnlaa.Aes
