/- What is said here: the document's counter, bit, times and Hash. -/
import Derived.Test.YtbebmbcjddibaaaGp0
/- What is said here: the document's counter, bit and times. -/
namespace Go.Proofs.Ytbebmbcjddibaaa.Gcm
set_option linter.unusedVariables false
set_option linter.unusedSimpArgs false
open Go.RowKit Go.Proofs.YtbebmbcjddibaaaW.PrintWords Go.Proofs.YtbebmbcjddibaaaW.PrintLast Go.Proofs.YtbebmbcjddibaaaW.PrintMore Go.Proofs.Ytbebmbcjddibaaa.PG Gf Gfi Poly AesF Aes Lng
attribute [local go_sem ↓] ld53 st53 ld23 st23 ld12 st12
theorem shr8 (b : B) (n : Nat) : (ofB b / (2 : Int) ^ n : Int) = ofB (b >>> n) := by
  unfold ofB
  rw [BitVec.toNat_ushiftRight, Nat.shiftRight_eq_div_pow]
  simp
set_option maxRecDepth 100000 in
set_option maxHeartbeats 4000000 in
theorem bit_calls (x : Nat → B) (i : Nat) (hi : i < 128) (w : World) : Calls Try.prog 54 #[.agg (cB 16 x), .int .i64 (i : Int)] w fun e w' => e = .returned (.int .u8 (if (blkW x).getLsbD (127 - i) = true then 1 else 0)) ∧ Below w.heap.size w w' := by
  have HX0 := Lib.hid (Blk.Is.new w (cB 16 x) 37)
  have HB0 := Lib.hid ((Below.refl _ w).alloc (Nat.le_refl _) (.cells (cB 16 x) 37))
  have c0 : (w.alloc (.cells (cB 16 x) 37)).cell? ⟨w.heap.size, i / 8, none⟩ = some (.int .u8 (ofB (x (i / 8)))) := by rw [HX0.out.cell, cB_get 16 _ _ (by omega)]
  obtain ⟨v, hv⟩ : ∃ v : Int, v = if (blkW x).getLsbD (127 - i) = true then 1 else 0 := ⟨_, rfl⟩
  rw [← hv]
  have hb : Go.bits .and .u8 (ofB (x (i / 8)) / 2 ^ (7 - i % 8)) 1 = v := by
    rw [shr8, bits_and_one, hv, blk_bit x i hi, BitVec.getLsbD_ushiftRight, Nat.add_zero]
  clear hv
  go_enter Try.func54, Try.ntmps54
  go_wp2_with fail
  go_ret
  exact ⟨rfl, HB0.out⟩
set_option maxRecDepth 100000 in
set_option maxHeartbeats 4000000 in
theorem counter_calls (nonce : Nat → B) (i : Nat) (hi : i < 1000000) (w : World) : Calls Try.prog 38 #[.agg (cB 12 nonce), .int .i64 (i : Int)] w fun e w' => e = .returned (.agg (cB 16 (ctr nonce i))) ∧ Below w.heap.size w w' := by
  have e1 : (w.alloc (.cells (cB 12 nonce) 23)).heap.size = w.heap.size + 1 := by simp
  have e2 : ((w.alloc (.cells (cB 12 nonce) 23)).alloc (.cells (cB 16 z16) 37)).heap.size = w.heap.size + 1 + 1 := by simp
  have HN0 := Lib.hid (((Blk.Is.new w (cB 12 nonce) 23).alloc (.cells (cB 16 z16) 37)).alloc (.cells (cB 16 z16) 37))
  have HR0 := Lib.hid ((Blk.Is.new (w.alloc (.cells (cB 12 nonce) 23)) (cB 16 z16) 37).alloc (.cells (cB 16 z16) 37))
  have HC0 := Lib.hid (Blk.Is.new ((w.alloc (.cells (cB 12 nonce) 23)).alloc (.cells (cB 16 z16) 37)) (cB 16 z16) 37)
  rw [e1] at HR0
  rw [e2] at HC0
  have HB0 := Lib.hid ((((Below.refl _ w).alloc (Nat.le_refl _) (.cells (cB 12 nonce) 23)).alloc (by omega) (.cells (cB 16 z16) 37)).alloc (by omega) (.cells (cB 16 z16) 37))
  have HI := Lib.hid hi
  clear e1 e2 hi
  go_enter Try.func38, Try.ntmps38
  go_wp2_with fail
  rw [lit16]
  generalize ((w.alloc (.cells (cB 12 nonce) 23)).alloc (.cells (cB 16 z16) 37)).alloc (.cells (cB 16 z16) 37) = w0 at *
  generalize hg : w.heap.size = g at *
  have HG := Lib.hid hg
  clear hg
  go_loopw [6, 8, 9, 10, 11, 12, 13, 14, 15, 16] (fun v6 v8 v9 v10 v11 v12 v13 v14 v15 v16 wr => ∃ (k : Nat), k ≤ 12 ∧ v6 = .int .i64 (k : Int) ∧ Hid (Blk.Is wr g (cB 12 nonce) 23) ∧ Hid (Blk.Is wr (g + 1) (cB 16 z16) 37) ∧ Hid (Blk.Is wr (g + 1 + 1) (cB 16 (fun q => if q < k then nonce q else 0#8)) 37) ∧ Hid (Below g w wr)) (fun v6 _ _ _ _ _ _ _ _ _ _ => 12 - (intOf v6).toNat)
  case atStart => exact ⟨0, by omega, rfl, HN0, HR0, HC0, HB0⟩
  case round =>
    clear HN0 HR0 HC0 HB0
    obtain ⟨k, hk, rfl, HN, HR, HC, HB⟩ := hrel
    obtain ⟨wo, rfl⟩ : ∃ wo, wo = wr := ⟨_, rfl⟩
    by_cases hlt : k < 12
    · have c0 : wo.cell? ⟨g, k, none⟩ = some (.int .u8 (ofB (nonce k))) := by rw [HN.out.cell, cB_get 12 _ _ hlt]
      have c1 : wo.cell? ⟨g + 1 + 1, k, none⟩ = some (.int .u8 (ofB 0#8)) := by
        rw [HC.out.cell, cB_get 16 _ _ (by omega)]
        simp
      have f1 := HC.out.free k
      have HL := Lib.hid hlt
      have hltI : (k : Int) < 12 := by omega
      generalize ofB 0#8 = zz at *
      go_wp2_with fail
      go_roundw
      case rel =>
        refine ⟨k + 1, by omega, by go_num, HN.out.other (by simp; omega) _, HR.out.other (by simp) _, ?_, HB.out.setCell (by show g ≤ g + 1 + 1; omega) _⟩
        have h := HC.out.set k (.int .u8 (ofB (nonce k)))
        rw [cB_set] at h
        have e : updB (fun q => if q < k then nonce q else 0#8) k (nonce k) = fun q => if q < k + 1 then nonce q else 0#8 := by
          funext q
          show updB _ k (nonce k) q = if q < k + 1 then nonce q else 0#8
          unfold updB
          show (if q = k then nonce k else if q < k then nonce q else 0#8) = _
          by_cases e : q = k
          · subst e; rw [if_pos rfl, if_pos (by omega)]
          · rw [if_neg e]
            by_cases h : q < k
            · rw [if_pos h, if_pos (by omega)]
            · rw [if_neg h, if_neg (by omega)]
        rw [e] at h
        exact h
      case measure => simp [intOf]; omega
    · obtain rfl : k = 12 := by omega
      go_wp2_with fail
      go_loopw [7, 17, 18, 19, 20, 21, 22, 23, 24, 25, 26, 27, 28, 29] (fun v7 v17 v18 v19 v20 v21 v22 v23 v24 v25 v26 v27 v28 v29 wr => ∃ (k : Nat), k ≤ 4 ∧ v7 = .int .i64 (k : Int) ∧ Hid (Blk.Is wr (g + 1) (cB 16 z16) 37) ∧ Hid (Blk.Is wr (g + 1 + 1) (cB 16 (fun q => if q < 12 + k then ctr nonce i q else 0#8)) 37) ∧ Hid (Below g w wr)) (fun v7 _ _ _ _ _ _ _ _ _ _ _ _ _ _ => 4 - (intOf v7).toNat)
      case atStart =>
        refine ⟨0, by omega, rfl, HR, ?_, HB⟩
        have e : (fun q => if q < 12 then nonce q else 0#8) = fun q => if q < 12 + 0 then ctr nonce i q else 0#8 := by
          funext q
          by_cases h : q < 12
          · rw [if_pos h, if_pos (by omega)]; unfold ctr; rw [if_pos h]
          · rw [if_neg h, if_neg (by omega)]
        rw [← e]
        exact HC
      case round =>
        clear HN HR HC HB
        obtain ⟨k, hk, rfl, HR, HC, HB⟩ := hrel
        by_cases hlt : k < 4
        · have c1 : wr.cell? ⟨g + 1 + 1, 12 + k, none⟩ = some (.int .u8 (ofB 0#8)) := by
            rw [HC.out.cell, cB_get 16 _ _ (by omega)]
            simp
          have f1 := HC.out.free (12 + k)
          have HL := Lib.hid hlt
          have hltI : (k : Int) < 4 := by omega
          generalize ofB 0#8 = zz at *
          have hiB := HI.out
          have hv : (i : Int) / 2 ^ (24 - 8 * k) % 256 = ofB (ctr nonce i (12 + k)) := by
            have h := byte_of i (24 - 8 * k) (by omega)
            unfold ctr
            rw [if_neg (by omega), show 8 * (15 - (12 + k)) = 24 - 8 * k by omega, ← h]
            rfl
          go_wp2_with fail
          go_roundw
          case rel =>
            refine ⟨k + 1, by omega, by go_num, HR.out.other (by simp) _, ?_, HB.out.setCell (by show g ≤ g + 1 + 1; omega) _⟩
            have h := HC.out.set (12 + k) (.int .u8 (ofB (ctr nonce i (12 + k))))
            rw [cB_set] at h
            have e : updB (fun q => if q < 12 + k then ctr nonce i q else 0#8) (12 + k) (ctr nonce i (12 + k)) = fun q => if q < 12 + (k + 1) then ctr nonce i q else 0#8 := by
              funext q
              show (if q = 12 + k then ctr nonce i (12 + k) else if q < 12 + k then ctr nonce i q else 0#8) = _
              by_cases e : q = 12 + k
              · subst e; rw [if_pos rfl, if_pos (by omega)]
              · rw [if_neg e]
                by_cases h : q < 12 + k
                · rw [if_pos h, if_pos (by omega)]
                · rw [if_neg h, if_neg (by omega)]
            rw [e] at h
            exact h
          case measure => simp [intOf]; omega
        · obtain rfl : k = 4 := by omega
          have hiB := HI.out
          have e8 : cB 16 (fun q => if q < 12 + 4 then ctr nonce i q else 0#8) = cB 16 (ctr nonce i) := cB_congr (fun q hq => by show (if q < 12 + 4 then ctr nonce i q else 0#8) = _; rw [if_pos (by omega)])
          rw [e8] at HC
          clear e8
          have hll := Blk.load_row HC.out (P := Try.prog) (t := 37) Try.underlying37 rfl (by rw [cB_size]; kernel_rfl)
          have hss := Blk.store_row (P := Try.prog) (t := 37) (cB 16 (ctr nonce i)) HR.out (by rw [cB_size]; kernel_rfl) (by rw [cB_size, cB_size]) (cB_one _ _)
          have HR5 := Lib.hid (HR.out.setRow (cB 16 (ctr nonce i)))
          have HB5 := Lib.hid (Blk.below_setRow HB.out (show g ≤ g + 1 by omega) (cB 16 (ctr nonce i)))
          go_wp2_with fail
          refine bodyPost_ret (results_cell_row rfl _ _ (g + 1) 37 (cB 16 (ctr nonce i)) (0, 0) _ rfl HR5.out Try.underlying37 rfl (by rw [cB_size]; kernel_rfl)) rfl ?_
          exact ⟨rfl, by rw [HG.out]; exact HB5.out⟩
end Go.Proofs.Ytbebmbcjddibaaa.Gcm
/- What is said here: the document's times is the field's product. -/
namespace Go.Proofs.Ytbebmbcjddibaaa.Gcm
set_option linter.unusedVariables false
set_option linter.unusedSimpArgs false
open Go.RowKit Go.Proofs.YtbebmbcjddibaaaW.PrintWords Go.Proofs.YtbebmbcjddibaaaW.PrintLast Go.Proofs.YtbebmbcjddibaaaW.PrintMore Go.Proofs.Ytbebmbcjddibaaa.PG Gf Gfi Poly AesF Aes Lng
attribute [local go_sem ↓] ld23 st23
theorem bits_or8 (a b : B) : Go.bits .or .u8 (ofB a) (ofB b) = ofB (a ||| b) := by
  have ha : BitVec.ofInt IntKind.u8.bits (ofB a) = a := toB_ofB a
  have hb : BitVec.ofInt IntKind.u8.bits (ofB b) = b := toB_ofB b
  unfold Go.bits
  simp only [ha, hb, IntKind.wrap_u8]
  show ((a ||| b).toNat : Int) % 256 = ((a ||| b).toNat : Int)
  have := (a ||| b).isLt
  omega
theorem shl7_ofB (b : B) : (ofB b * 128) % 256 = ofB (b <<< 7) := by
  revert b
  exact all_bits (by decide +kernel)
theorem blkW_xor (f g : Nat → B) : blkW (fun q => f q ^^^ g q) = blkW f ^^^ blkW g := by
  apply ext127
  intro j hj
  rw [BitVec.getLsbD_xor, blk_bit _ j hj, blk_bit _ j hj, blk_bit _ j hj, BitVec.getLsbD_xor]
theorem last_bit (Y : Nat → B) : (blkW Y).getLsbD (127 - 127) = (Y 15).getLsbD 0 := blk_bit Y 127 (by decide)
theorem bit127 (Y : Nat → B) (w : World) : Calls Try.prog 54 #[.agg (cB 16 Y), .int .i64 127] w fun e w' => e = .returned (.int .u8 (if (Y 15).getLsbD 0 = true then 1 else 0)) ∧ Below w.heap.size w w' := by
  have h := bit_calls Y 127 (by decide) w
  rw [last_bit] at h
  exact h
/-- The other one times t, shifted as far down as k. -/
def dn (Y : Nat → B) (k : Nat) : Nat → B := fun q => if k < q then (Y q >>> 1) ||| (Y (q - 1) <<< 7) else Y q
theorem dn_next (Y : Nat → B) (j : Nat) : updB (dn Y (j + 1)) (j + 1) ((Y (j + 1) >>> 1) ||| (Y j <<< 7)) = dn Y j := by
  funext q
  show (if q = j + 1 then (Y (j + 1) >>> 1) ||| (Y j <<< 7) else if j + 1 < q then (Y q >>> 1) ||| (Y (q - 1) <<< 7) else Y q) = if j < q then (Y q >>> 1) ||| (Y (q - 1) <<< 7) else Y q
  by_cases e : q = j + 1
  · subst e
    rw [if_pos rfl, if_pos (by omega), Nat.add_sub_cancel]
  · rw [if_neg e]
    by_cases h : j + 1 < q
    · rw [if_pos h, if_pos (by omega)]
    · rw [if_neg h, if_neg (by omega)]
theorem dn_start (Y : Nat → B) : cB 16 Y = cB 16 (dn Y 15) := cB_congr (fun q hq => by unfold dn; rw [if_neg (by omega)])
theorem dn_end (Y : Nat → B) : updB (updB (dn Y 0) 0 (Y 0 >>> 1)) 0 ((Y 0 >>> 1) ^^^ (if (Y 15).getLsbD 0 then 0xe1#8 else 0#8)) = tB Y := by
  funext q
  show (if q = 0 then (Y 0 >>> 1) ^^^ (if (Y 15).getLsbD 0 then 0xe1#8 else 0#8) else if q = 0 then Y 0 >>> 1 else if 0 < q then (Y q >>> 1) ||| (Y (q - 1) <<< 7) else Y q) = tB Y q
  unfold tB
  by_cases e : q = 0
  · rw [if_pos e, if_pos e]
  · rw [if_neg e, if_neg e, if_neg e, if_pos (by omega)]
theorem upd_same (f : Nat → B) (i : Nat) (v : B) : updB (updB f i v) i v = updB f i v := by
  funext q
  unfold updB
  by_cases e : q = i
  · rw [if_pos e, if_pos e]
  · rw [if_neg e, if_neg e]
/-- The sum, as far as k bytes of it are told. -/
def zx (Z Y : Nat → B) (k : Nat) : Nat → B := fun q => if q < k then Z q ^^^ Y q else Z q
theorem zx_next (Z Y : Nat → B) (k : Nat) : updB (zx Z Y k) k (Z k ^^^ Y k) = zx Z Y (k + 1) := by
  funext q
  show (if q = k then Z k ^^^ Y k else if q < k then Z q ^^^ Y q else Z q) = if q < k + 1 then Z q ^^^ Y q else Z q
  by_cases e : q = k
  · subst e; rw [if_pos rfl, if_pos (by omega)]
  · rw [if_neg e]
    by_cases h : q < k
    · rw [if_pos h, if_pos (by omega)]
    · rw [if_neg h, if_neg (by omega)]
theorem zx_zero (Z Y : Nat → B) : zx Z Y 0 = Z := by funext q; unfold zx; rw [if_neg (by omega)]
theorem zx_end (Z Y : Nat → B) : blkW (zx Z Y 16) = blkW Z ^^^ blkW Y := by
  rw [← blkW_xor]
  exact blkW_congr (fun q hq => by unfold zx; rw [if_pos hq])
set_option maxRecDepth 100000 in
set_option maxHeartbeats 8000000 in
theorem rtimes_calls (X Y0 : Nat → B) (w : World) : Calls Try.prog 51 #[.agg (cB 16 X), .agg (cB 16 Y0)] w fun e w' => ∃ Z, e = .returned (.agg (cB 16 Z)) ∧ blkW Z = gm (blkW X) (blkW Y0) ∧ Below w.heap.size w w' := by
  have e1 : (w.alloc (.cells (cB 16 X) 37)).heap.size = w.heap.size + 1 := by simp
  have e2 : ((w.alloc (.cells (cB 16 X) 37)).alloc (.cells (cB 16 Y0) 37)).heap.size = w.heap.size + 1 + 1 := by simp
  have e3 : (((w.alloc (.cells (cB 16 X) 37)).alloc (.cells (cB 16 Y0) 37)).alloc (.cells (cB 16 z16) 37)).heap.size = w.heap.size + 1 + 1 + 1 := by simp
  have HX := Lib.hid ((((Blk.Is.new w (cB 16 X) 37).alloc (.cells (cB 16 Y0) 37)).alloc (.cells (cB 16 z16) 37)).alloc (.cells (cB 16 z16) 37))
  have HY := Lib.hid (((Blk.Is.new (w.alloc (.cells (cB 16 X) 37)) (cB 16 Y0) 37).alloc (.cells (cB 16 z16) 37)).alloc (.cells (cB 16 z16) 37))
  rw [e1] at HY
  have HR := Lib.hid ((Blk.Is.new ((w.alloc (.cells (cB 16 X) 37)).alloc (.cells (cB 16 Y0) 37)) (cB 16 z16) 37).alloc (.cells (cB 16 z16) 37))
  rw [e2] at HR
  have HZ := Lib.hid (Blk.Is.new (((w.alloc (.cells (cB 16 X) 37)).alloc (.cells (cB 16 Y0) 37)).alloc (.cells (cB 16 z16) 37)) (cB 16 z16) 37)
  rw [e3] at HZ
  have HB := Lib.hid (((((Below.refl _ w).alloc (Nat.le_refl _) (.cells (cB 16 X) 37)).alloc (by omega) (.cells (cB 16 Y0) 37)).alloc (by omega) (.cells (cB 16 z16) 37)).alloc (by omega) (.cells (cB 16 z16) 37))
  clear e1 e2 e3
  go_enter Try.func51, Try.ntmps51
  go_wp2_with fail
  rw [lit16]
  generalize ((((w.alloc (.cells (cB 16 X) 37)).alloc (.cells (cB 16 Y0) 37)).alloc (.cells (cB 16 z16) 37)).alloc (.cells (cB 16 z16) 37)) = w0 at *
  generalize hg : w.heap.size = g at *
  have HG := Lib.hid hg
  clear hg
  go_loopw [6, 7, 8, 9, 10, 11, 12, 13, 14, 15, 16, 17, 18, 19, 20, 21, 22, 23, 24, 25, 26, 27, 28, 29, 30, 31, 32, 33, 34, 35, 36, 37, 38, 39, 40, 41, 42, 43, 44, 45, 46, 47, 48, 49, 50, 51, 52, 53, 54, 55, 56, 57, 58] (fun v6 v7 v8 v9 v10 v11 v12 v13 v14 v15 v16 v17 v18 v19 v20 v21 v22 v23 v24 v25 v26 v27 v28 v29 v30 v31 v32 v33 v34 v35 v36 v37 v38 v39 v40 v41 v42 v43 v44 v45 v46 v47 v48 v49 v50 v51 v52 v53 v54 v55 v56 v57 v58 wr => ∃ (i : Nat) (Y Z : Nat → B), i ≤ 128 ∧ v6 = .int .i64 (i : Int) ∧ Hid (blkW Y = pw (blkW Y0) i) ∧ Hid (blkW Z = acc (blkW X) (blkW Y0) i) ∧ Hid (Blk.Is wr g (cB 16 X) 37) ∧ Hid (Blk.Is wr (g + 1) (cB 16 Y) 37) ∧ Hid (Blk.Is wr (g + 1 + 1) (cB 16 z16) 37) ∧ Hid (Blk.Is wr (g + 1 + 1 + 1) (cB 16 Z) 37) ∧ Hid (Below g w wr)) (fun v6 _ _ _ _ _ _ _ _ _ _ _ _ _ _ _ _ _ _ _ _ _ _ _ _ _ _ _ _ _ _ _ _ _ _ _ _ _ _ _ _ _ _ _ _ _ _ _ _ _ _ _ _ _ => 128 - (intOf v6).toNat)
  case atStart => exact ⟨0, Y0, z16, by omega, rfl, rfl, by show blkW z16 = 0#128; decide +kernel, HX, HY, HR, HZ, HB⟩
  case round =>
    clear HX HY HR HZ HB
    obtain ⟨i, Y, Z, hi, rfl, HYE, HZE, HX, HY, HR, HZ, HB⟩ := hrel
    obtain ⟨wo, rfl⟩ : ∃ wo, wo = wr := ⟨_, rfl⟩
    by_cases hlt : i < 128
    · skip
      have HI := Lib.hid hlt
      have hltI : (i : Int) < 128 := by omega
      have lx := ld16_is HX.out
      go_wp2_with fail
      refine (bit_calls X i hlt _).mono ?_
      rintro e w1 ⟨rfl, hb⟩
      have HZ0 : Hid (g + 1 + 1 + 1 < _) := HZ.out.lt
      replace HB := Lib.hid (HB.out.trans (hb.mono (by have := HZ0.out; omega)))
      replace HX := Lib.hid (HX.out.below hb HX.out.lt)
      replace HY := Lib.hid (HY.out.below hb HY.out.lt)
      replace HR := Lib.hid (HR.out.below hb HR.out.lt)
      replace HZ := Lib.hid (HZ.out.below hb HZ.out.lt)
      clear hb HZ0
      clear lx
      by_cases hbit : (blkW X).getLsbD (127 - i) = true
      · skip
        rw [if_pos hbit]
        have HZN : Hid (blkW (zx Z Y 16) = acc (blkW X) (blkW Y0) (i + 1)) := by
          show blkW (zx Z Y 16) = acc (blkW X) (blkW Y0) i ^^^ (if (blkW X).getMsbD i then pw (blkW Y0) i else 0#128)
          rw [zx_end, HZE.out, HYE.out, BitVec.getMsbD_eq_getLsbD, decide_eq_true hlt, Bool.true_and, show 128 - 1 - i = 127 - i by omega, if_pos hbit]
        clear hbit
        go_wp2_with fail
        rw [← zx_zero Z Y] at HZ
        go_loopw [7, 18, 19, 20, 21, 22, 23, 24, 25, 26, 27, 28, 29, 30] (fun v7 v18 v19 v20 v21 v22 v23 v24 v25 v26 v27 v28 v29 v30 wr => ∃ (k : Nat), k ≤ 16 ∧ v7 = .int .i64 (k : Int) ∧ Hid (Blk.Is wr g (cB 16 X) 37) ∧ Hid (Blk.Is wr (g + 1) (cB 16 Y) 37) ∧ Hid (Blk.Is wr (g + 1 + 1) (cB 16 z16) 37) ∧ Hid (Blk.Is wr (g + 1 + 1 + 1) (cB 16 (zx Z Y k)) 37) ∧ Hid (Below g w wr)) (fun v7 _ _ _ _ _ _ _ _ _ _ _ _ _ _ => 16 - (intOf v7).toNat)
        case atStart => exact ⟨0, by omega, rfl, HX, HY, HR, HZ, HB⟩
        case round =>
          clear HX HY HR HZ HB
          obtain ⟨k, hk, rfl, HX, HY, HR, HZ, HB⟩ := hrel
          obtain ⟨wi, rfl⟩ : ∃ wi, wi = wr := ⟨_, rfl⟩
          by_cases hk16 : k < 16
          · have c0 : wi.cell? ⟨g + 1 + 1 + 1, k, none⟩ = some (.int .u8 (ofB (Z k))) := by rw [HZ.out.cell, cB_get 16 _ _ hk16]; unfold zx; rw [if_neg (by omega)]
            have c1 : wi.cell? ⟨g + 1, k, none⟩ = some (.int .u8 (ofB (Y k))) := by rw [HY.out.cell, cB_get 16 _ _ hk16]
            have f0 := HZ.out.free k
            have hx := bits_xor (Z k) (Y k)
            have HN := Lib.hid (zx_next Z Y k)
            generalize Z k ^^^ Y k = nv at *
            have HK := Lib.hid hk16
            have hkI : (k : Int) < 16 := by omega
            go_wp2_with fail
            go_region
            go_wp2_with fail
            go_roundw
            case rel =>
              refine ⟨k + 1, by have := HK.out; omega, by go_num, (HX.out.other (by show g ≠ g + 1 + 1 + 1; omega) _).drew, (HY.out.other (by show g + 1 ≠ g + 1 + 1 + 1; omega) _).drew, (HR.out.other (by show g + 1 + 1 ≠ g + 1 + 1 + 1; omega) _).drew, ?_, (HB.out.setCell (by show g ≤ g + 1 + 1 + 1; omega) _).drew⟩
              have h := (HZ.out.set k (.int .u8 (ofB nv))).drew
              rw [cB_set, HN.out] at h
              exact h
            case measure => have := HK.out; simp [intOf]; omega
          · obtain rfl : k = 16 := by omega
            have ly := ld16_is HY.out
            go_wp2_with fail
            refine (bit127 Y _).mono ?_
            rintro e w5 ⟨rfl, hb⟩
            have HZ0 : Hid (g + 1 + 1 + 1 < _) := HZ.out.lt
            replace HB := Lib.hid (HB.out.trans (hb.mono (by have := HZ0.out; omega)))
            replace HX := Lib.hid (HX.out.below hb HX.out.lt)
            replace HY := Lib.hid (HY.out.below hb HY.out.lt)
            replace HR := Lib.hid (HR.out.below hb HR.out.lt)
            replace HZ := Lib.hid (HZ.out.below hb HZ.out.lt)
            clear hb HZ0
            clear ly
            obtain ⟨ov, hov⟩ : ∃ ov, ov = (Y 15).getLsbD 0 := ⟨_, rfl⟩
            rw [← hov]
            have HOV := Lib.hid hov
            clear hov
            obtain ⟨bv, hbv⟩ : ∃ bv : Int, bv = if ov = true then 1 else 0 := ⟨_, rfl⟩
            have hbe : (bv == 1) = ov := by rw [hbv]; cases ov <;> rfl
            rw [← hbv]
            clear hbv
            go_wp2_with fail
            clear hbe
            rw [dn_start Y] at HY
            go_loopw [9, 34, 35, 36, 37, 38, 39, 40, 41, 42, 43, 44, 45, 46, 47, 48, 49] (fun v9 v34 v35 v36 v37 v38 v39 v40 v41 v42 v43 v44 v45 v46 v47 v48 v49 wr => ∃ (k : Nat), k ≤ 15 ∧ v9 = .int .i64 (k : Int) ∧ Hid (Blk.Is wr g (cB 16 X) 37) ∧ Hid (Blk.Is wr (g + 1) (cB 16 (dn Y k)) 37) ∧ Hid (Blk.Is wr (g + 1 + 1) (cB 16 z16) 37) ∧ Hid (Blk.Is wr (g + 1 + 1 + 1) (cB 16 (zx Z Y 16)) 37) ∧ Hid (Below g w wr)) (fun v9 _ _ _ _ _ _ _ _ _ _ _ _ _ _ _ _ _ => (intOf v9).toNat)
            case atStart => exact ⟨15, Nat.le_refl _, rfl, HX, HY, HR, HZ, HB⟩
            case round =>
              clear HX HY HR HZ HB
              obtain ⟨k, hk, rfl, HX, HY, HR, HZ, HB⟩ := hrel
              by_cases hk0 : 0 < k
              · obtain ⟨j, rfl⟩ : ∃ j, k = j + 1 := ⟨k - 1, by omega⟩
                have hj : j < 15 := by omega
                have c0 : wr.cell? ⟨g + 1, j + 1, none⟩ = some (.int .u8 (ofB (Y (j + 1)))) := by rw [HY.out.cell, cB_get 16 _ _ (by omega)]; unfold dn; rw [if_neg (by omega)]
                have c1 : wr.cell? ⟨g + 1, j, none⟩ = some (.int .u8 (ofB (Y j))) := by rw [HY.out.cell, cB_get 16 _ _ (by omega)]; unfold dn; rw [if_neg (by omega)]
                have f0 := HY.out.free (j + 1)
                have h1 := half_ofB (Y (j + 1))
                have h2 := shl7_ofB (Y j)
                have h2b : IntKind.u8.wrap (ofB (Y j) * 128) = ofB (Y j <<< 7) := shl7_ofB (Y j)
                have h2c : IntKind.u8.wrap (ofB (Y j) * 2 ^ 7) = ofB (Y j <<< 7) := shl7_ofB (Y j)
                have h3 := bits_or8 (Y (j + 1) >>> 1) (Y j <<< 7)
                have HN := Lib.hid (dn_next Y j)
                generalize (Y (j + 1) >>> 1) ||| (Y j <<< 7) = nv at *
                have HJ := Lib.hid hj
                have hjI : (j : Int) + 1 > 0 := by omega
                go_wp2_with fail
                go_region
                go_wp2_with fail
                go_roundw
                case rel =>
                  refine ⟨j, by have := HJ.out; omega, by go_num, (HX.out.other (by show g ≠ g + 1; omega) _).drew, ?_, (HR.out.other (by show g + 1 + 1 ≠ g + 1; omega) _).drew, (HZ.out.other (by show g + 1 + 1 + 1 ≠ g + 1; omega) _).drew, (HB.out.setCell (by show g ≤ g + 1; omega) _).drew⟩
                  have h := (HY.out.set (j + 1) (.int .u8 (ofB nv))).drew
                  rw [cB_set, HN.out] at h
                  exact h
                case measure => simp [intOf]
              · obtain rfl : k = 0 := by omega
                have c0 : wr.cell? ⟨g + 1, 0, none⟩ = some (.int .u8 (ofB (Y 0))) := by rw [HY.out.cell, cB_get 16 _ _ (by omega)]; rfl
                have f0 := HY.out.free 0
                have h1 := half_ofB (Y 0)
                have HTE := Lib.hid (dn_end Y)
                have HPW : Hid (blkW (tB Y) = pw (blkW Y0) (i + 1)) := by show blkW (tB Y) = T (pw (blkW Y0) i); rw [blk_T, HYE.out]
                have hy := HY.out.set 0 (.int .u8 (ofB (Y 0 >>> 1)))
                rw [cB_set] at hy
                have HY7 := Lib.hid hy
                clear hy
                have hov := HOV.out
                have hiB := HI.out
                cases ov with
                | false =>
                  rw [← hov] at HTE
                  simp only [Bool.false_eq_true, if_false, BitVec.xor_zero, upd_same] at HTE
                  clear hov
                  rw [HTE.out] at HY7
                  go_wp2_with fail
                  go_roundw
                  case rel => exact ⟨i + 1, tB Y, (zx Z Y 16), by have := HI.out; omega, by go_num, HPW, HZN, HX.out.other (by show g ≠ g + 1; omega) _, HY7, HR.out.other (by show g + 1 + 1 ≠ g + 1; omega) _, HZ.out.other (by show g + 1 + 1 + 1 ≠ g + 1; omega) _, HB.out.setCell (by show g ≤ g + 1; omega) _⟩
                  case measure => have := HI.out; simp [intOf]; omega
                | true =>
                  rw [← hov] at HTE
                  simp only [if_true] at HTE
                  clear hov
                  have c7 : (wr.setCell ⟨g + 1, 0, none⟩ (.int .u8 (ofB (Y 0 >>> 1)))).cell? ⟨g + 1, 0, none⟩ = some (.int .u8 (ofB (Y 0 >>> 1))) := by rw [HY7.out.cell, cB_get 16 _ _ (by omega)]; rfl
                  have f7 := HY7.out.free 0
                  have hx : Go.bits .xor .u8 (ofB (Y 0 >>> 1)) 225 = ofB ((Y 0 >>> 1) ^^^ 0xe1#8) := bits_xor (Y 0 >>> 1) 0xe1#8
                  have hy := HY7.out.set 0 (.int .u8 (ofB ((Y 0 >>> 1) ^^^ 0xe1#8)))
                  rw [cB_set, HTE.out] at hy
                  have HY9 := Lib.hid hy
                  clear hy
                  go_wp2_with fail
                  go_roundw
                  case rel => exact ⟨i + 1, tB Y, (zx Z Y 16), by have := HI.out; omega, by go_num, HPW, HZN, (HX.out.other (by show g ≠ g + 1; omega) _).other (by show g ≠ g + 1; omega) _, HY9, (HR.out.other (by show g + 1 + 1 ≠ g + 1; omega) _).other (by show g + 1 + 1 ≠ g + 1; omega) _, (HZ.out.other (by show g + 1 + 1 + 1 ≠ g + 1; omega) _).other (by show g + 1 + 1 + 1 ≠ g + 1; omega) _, (HB.out.setCell (by show g ≤ g + 1; omega) _).setCell (by show g ≤ g + 1; omega) _⟩
                  case measure => have := HI.out; simp [intOf]; omega
      · skip
        rw [if_neg hbit]
        have HZN : Hid (blkW Z = acc (blkW X) (blkW Y0) (i + 1)) := by
          show blkW Z = acc (blkW X) (blkW Y0) i ^^^ (if (blkW X).getMsbD i then pw (blkW Y0) i else 0#128)
          rw [HZE.out, BitVec.getMsbD_eq_getLsbD, decide_eq_true hlt, Bool.true_and, show 128 - 1 - i = 127 - i by omega, if_neg hbit, BitVec.xor_zero]
        clear hbit
        have ly := ld16_is HY.out
        go_wp2_with fail
        refine (bit127 Y _).mono ?_
        rintro e w5 ⟨rfl, hb⟩
        have HZ0 : Hid (g + 1 + 1 + 1 < _) := HZ.out.lt
        replace HB := Lib.hid (HB.out.trans (hb.mono (by have := HZ0.out; omega)))
        replace HX := Lib.hid (HX.out.below hb HX.out.lt)
        replace HY := Lib.hid (HY.out.below hb HY.out.lt)
        replace HR := Lib.hid (HR.out.below hb HR.out.lt)
        replace HZ := Lib.hid (HZ.out.below hb HZ.out.lt)
        clear hb HZ0
        clear ly
        obtain ⟨ov, hov⟩ : ∃ ov, ov = (Y 15).getLsbD 0 := ⟨_, rfl⟩
        rw [← hov]
        have HOV := Lib.hid hov
        clear hov
        obtain ⟨bv, hbv⟩ : ∃ bv : Int, bv = if ov = true then 1 else 0 := ⟨_, rfl⟩
        have hbe : (bv == 1) = ov := by rw [hbv]; cases ov <;> rfl
        rw [← hbv]
        clear hbv
        go_wp2_with fail
        clear hbe
        rw [dn_start Y] at HY
        go_loopw [9, 34, 35, 36, 37, 38, 39, 40, 41, 42, 43, 44, 45, 46, 47, 48, 49] (fun v9 v34 v35 v36 v37 v38 v39 v40 v41 v42 v43 v44 v45 v46 v47 v48 v49 wr => ∃ (k : Nat), k ≤ 15 ∧ v9 = .int .i64 (k : Int) ∧ Hid (Blk.Is wr g (cB 16 X) 37) ∧ Hid (Blk.Is wr (g + 1) (cB 16 (dn Y k)) 37) ∧ Hid (Blk.Is wr (g + 1 + 1) (cB 16 z16) 37) ∧ Hid (Blk.Is wr (g + 1 + 1 + 1) (cB 16 Z) 37) ∧ Hid (Below g w wr)) (fun v9 _ _ _ _ _ _ _ _ _ _ _ _ _ _ _ _ _ => (intOf v9).toNat)
        case atStart => exact ⟨15, Nat.le_refl _, rfl, HX, HY, HR, HZ, HB⟩
        case round =>
          clear HX HY HR HZ HB
          obtain ⟨k, hk, rfl, HX, HY, HR, HZ, HB⟩ := hrel
          by_cases hk0 : 0 < k
          · obtain ⟨j, rfl⟩ : ∃ j, k = j + 1 := ⟨k - 1, by omega⟩
            have hj : j < 15 := by omega
            have c0 : wr.cell? ⟨g + 1, j + 1, none⟩ = some (.int .u8 (ofB (Y (j + 1)))) := by rw [HY.out.cell, cB_get 16 _ _ (by omega)]; unfold dn; rw [if_neg (by omega)]
            have c1 : wr.cell? ⟨g + 1, j, none⟩ = some (.int .u8 (ofB (Y j))) := by rw [HY.out.cell, cB_get 16 _ _ (by omega)]; unfold dn; rw [if_neg (by omega)]
            have f0 := HY.out.free (j + 1)
            have h1 := half_ofB (Y (j + 1))
            have h2 := shl7_ofB (Y j)
            have h2b : IntKind.u8.wrap (ofB (Y j) * 128) = ofB (Y j <<< 7) := shl7_ofB (Y j)
            have h2c : IntKind.u8.wrap (ofB (Y j) * 2 ^ 7) = ofB (Y j <<< 7) := shl7_ofB (Y j)
            have h3 := bits_or8 (Y (j + 1) >>> 1) (Y j <<< 7)
            have HN := Lib.hid (dn_next Y j)
            generalize (Y (j + 1) >>> 1) ||| (Y j <<< 7) = nv at *
            have HJ := Lib.hid hj
            have hjI : (j : Int) + 1 > 0 := by omega
            go_wp2_with fail
            go_region
            go_wp2_with fail
            go_roundw
            case rel =>
              refine ⟨j, by have := HJ.out; omega, by go_num, (HX.out.other (by show g ≠ g + 1; omega) _).drew, ?_, (HR.out.other (by show g + 1 + 1 ≠ g + 1; omega) _).drew, (HZ.out.other (by show g + 1 + 1 + 1 ≠ g + 1; omega) _).drew, (HB.out.setCell (by show g ≤ g + 1; omega) _).drew⟩
              have h := (HY.out.set (j + 1) (.int .u8 (ofB nv))).drew
              rw [cB_set, HN.out] at h
              exact h
            case measure => simp [intOf]
          · obtain rfl : k = 0 := by omega
            have c0 : wr.cell? ⟨g + 1, 0, none⟩ = some (.int .u8 (ofB (Y 0))) := by rw [HY.out.cell, cB_get 16 _ _ (by omega)]; rfl
            have f0 := HY.out.free 0
            have h1 := half_ofB (Y 0)
            have HTE := Lib.hid (dn_end Y)
            have HPW : Hid (blkW (tB Y) = pw (blkW Y0) (i + 1)) := by show blkW (tB Y) = T (pw (blkW Y0) i); rw [blk_T, HYE.out]
            have hy := HY.out.set 0 (.int .u8 (ofB (Y 0 >>> 1)))
            rw [cB_set] at hy
            have HY7 := Lib.hid hy
            clear hy
            have hov := HOV.out
            have hiB := HI.out
            cases ov with
            | false =>
              rw [← hov] at HTE
              simp only [Bool.false_eq_true, if_false, BitVec.xor_zero, upd_same] at HTE
              clear hov
              rw [HTE.out] at HY7
              go_wp2_with fail
              go_roundw
              case rel => exact ⟨i + 1, tB Y, Z, by have := HI.out; omega, by go_num, HPW, HZN, HX.out.other (by show g ≠ g + 1; omega) _, HY7, HR.out.other (by show g + 1 + 1 ≠ g + 1; omega) _, HZ.out.other (by show g + 1 + 1 + 1 ≠ g + 1; omega) _, HB.out.setCell (by show g ≤ g + 1; omega) _⟩
              case measure => have := HI.out; simp [intOf]; omega
            | true =>
              rw [← hov] at HTE
              simp only [if_true] at HTE
              clear hov
              have c7 : (wr.setCell ⟨g + 1, 0, none⟩ (.int .u8 (ofB (Y 0 >>> 1)))).cell? ⟨g + 1, 0, none⟩ = some (.int .u8 (ofB (Y 0 >>> 1))) := by rw [HY7.out.cell, cB_get 16 _ _ (by omega)]; rfl
              have f7 := HY7.out.free 0
              have hx : Go.bits .xor .u8 (ofB (Y 0 >>> 1)) 225 = ofB ((Y 0 >>> 1) ^^^ 0xe1#8) := bits_xor (Y 0 >>> 1) 0xe1#8
              have hy := HY7.out.set 0 (.int .u8 (ofB ((Y 0 >>> 1) ^^^ 0xe1#8)))
              rw [cB_set, HTE.out] at hy
              have HY9 := Lib.hid hy
              clear hy
              go_wp2_with fail
              go_roundw
              case rel => exact ⟨i + 1, tB Y, Z, by have := HI.out; omega, by go_num, HPW, HZN, (HX.out.other (by show g ≠ g + 1; omega) _).other (by show g ≠ g + 1; omega) _, HY9, (HR.out.other (by show g + 1 + 1 ≠ g + 1; omega) _).other (by show g + 1 + 1 ≠ g + 1; omega) _, (HZ.out.other (by show g + 1 + 1 + 1 ≠ g + 1; omega) _).other (by show g + 1 + 1 + 1 ≠ g + 1; omega) _, (HB.out.setCell (by show g ≤ g + 1; omega) _).setCell (by show g ≤ g + 1; omega) _⟩
              case measure => have := HI.out; simp [intOf]; omega
    · obtain rfl : i = 128 := by omega
      have hll := ld16_is HZ.out
      have hss := Blk.store_row (P := Try.prog) (t := 37) (cB 16 Z) HR.out (by rw [cB_size]; kernel_rfl) (by rw [cB_size, cB_size]) (cB_one _ _)
      have HR5 := Lib.hid (HR.out.setRow (cB 16 Z))
      have HB5 := Lib.hid (Blk.below_setRow HB.out (show g ≤ g + 1 + 1 by omega) (cB 16 Z))
      go_wp2_with fail
      refine bodyPost_ret (results_cell_row rfl _ _ (g + 1 + 1) 37 (cB 16 Z) (0, 0) _ rfl HR5.out Try.underlying37 rfl (by rw [cB_size]; kernel_rfl)) rfl ?_
      exact ⟨Z, rfl, HZE.out, by rw [HG.out]; exact HB5.out⟩
end Go.Proofs.Ytbebmbcjddibaaa.Gcm
/- What is said here: the document's hash is the program's. -/
namespace Go.Proofs.Ytbebmbcjddibaaa.Gcm
set_option linter.unusedVariables false
set_option linter.unusedSimpArgs false
open Go.RowKit Go.Proofs.YtbebmbcjddibaaaW.PrintWords Go.Proofs.YtbebmbcjddibaaaW.PrintLast Go.Proofs.YtbebmbcjddibaaaW.PrintMore Go.Proofs.Ytbebmbcjddibaaa.PG Gf Gfi Poly AesF Aes Lng
attribute [local go_sem ↓] ld23 st23
theorem row_txt' {w : World} {base : Nat} {v : Value} {l : List Int} (h : Row.Is w base v l) : ∃ A c, v = .slice A l.length c ∧ Kd.C (Kd.int .u8) w A l.length l := by
  obtain ⟨A, c, rfl, _, hC⟩ := h.reads
  exact ⟨A, c, rfl, hC⟩
/-- A text with bytes 0 behind it, up to a multiple of 16. -/
def padL (l : List Int) : List Int := l ++ List.replicate ((16 - l.length % 16) % 16) 0
theorem padL_len (l : List Int) : (padL l).length = 16 * ((l.length + 15) / 16) := by
  unfold padL
  rw [List.length_append, List.length_replicate]
  omega
theorem padL_at (l : List Int) (j : Nat) : (padL l).getD j 0 = l.getD j 0 := by
  unfold padL
  rw [List.getD_eq_getElem?_getD, List.getD_eq_getElem?_getD]
  by_cases h : j < l.length
  · rw [List.getElem?_append_left h]
  · rw [List.getElem?_append_right (by omega), List.getElem?_replicate, List.getElem?_eq_none (show l.length ≤ j by omega)]
    split <;> rfl
theorem padL_by (l : List Int) (h : ∀ x ∈ l, 0 ≤ x ∧ x < 256) : ∀ x ∈ padL l, 0 ≤ x ∧ x < 256 := fun x hx => by
  unfold padL at hx
  rcases List.mem_append.1 hx with h1 | h1
  · exact h x h1
  · have := (List.mem_replicate.1 h1).2
    omega
theorem padded_l0 (l : List Int) (hl : l.length < 1000000) : ∀ (r m k : Nat), m + r = (16 - l.length % 16) % 16 → r < k → ciboriumref06_padded.l0 k (l ++ List.replicate m 0) = some (padL l) := by
  intro r
  induction r with
  | zero =>
    intro m k hm hk
    obtain ⟨k, rfl⟩ : ∃ k', k = k' + 1 := ⟨k - 1, by omega⟩
    have e : ((l ++ List.replicate m 0).length : Int) % 16 = 0 := by
      rw [List.length_append, List.length_replicate]; omega
    unfold ciboriumref06_padded.l0
    rw [if_pos e]
    unfold padL
    rw [← hm, Nat.add_zero]
  | succ r ih =>
    intro m k hm hk
    obtain ⟨k, rfl⟩ : ∃ k', k = k' + 1 := ⟨k - 1, by omega⟩
    have e : ¬ ((l ++ List.replicate m 0).length : Int) % 16 = 0 := by
      rw [List.length_append, List.length_replicate]; omega
    unfold ciboriumref06_padded.l0
    rw [if_neg e, if_pos (by rw [List.length_append, List.length_replicate]; omega), List.append_assoc, ← List.replicate_succ']
    exact ih (m + 1) k (by omega) (by omega)
theorem padded_f (l : List Int) (hl : l.length < 1000000) : ciboriumref06_padded.f 20 l = some (padL l) := by
  unfold ciboriumref06_padded.f
  rw [if_pos (by rw [List.length_nil]; omega), List.nil_append]
  have h := padded_l0 l hl ((16 - l.length % 16) % 16) 0 20 (by omega) (by omega)
  rw [List.replicate_zero, List.append_nil] at h
  exact h
theorem padded_t {w : World} {A : Option Addr} {c : Nat} {l : List Int} (h : Txt w A c l) : Calls Try.prog 49 #[.slice A l.length c] w fun e w' => ∃ v, e = .returned v ∧ Row.Is w' w.heap.size v (padL l) ∧ Below w.heap.size w w' := by
  refine (ciboriumref06_padded.calls 20 A c l _ w h.row h.le (padded_f l h.few)).mono ?_
  rintro e w' ⟨v, rfl, hR, hb⟩
  exact ⟨v, rfl, Row.of_R hR, hb⟩
/-- Eight times a number of bytes, as bytes. -/
def lenB (n : Nat) (i : Nat) : B := BitVec.ofNat 8 (8 * n / 2 ^ (56 - 8 * i))
def lenL (n : Nat) : List Int := (List.range 8).map fun i => ofB (lenB n i)
theorem lenL_len (n : Nat) : (lenL n).length = 8 := by simp [lenL]
theorem lenL_at (n i : Nat) (hi : i < 8) : (lenL n).getD i 0 = ofB (lenB n i) := by
  unfold lenL
  rw [List.getD_eq_getElem?_getD, List.getElem?_map, List.getElem?_range hi]; rfl
theorem lenL_by (n : Nat) : ∀ x ∈ lenL n, 0 ≤ x ∧ x < 256 := fun x hx => by
  unfold lenL at hx
  obtain ⟨j, _, rfl⟩ := List.mem_map.1 hx
  exact ofB_range _
theorem len_byte (n i : Nat) (hn : n < 1000000) (hi : i < 8) : (shr .u64 (IntKind.u64.wrap (wrap64 (8 * (n : Int)))) (wrap64 (56 - (wrap64 (8 * (i : Int)))))) % 256 = ofB (lenB n i) := by
  have e1 : wrap64 (8 * (n : Int)) = ((8 * n : Nat) : Int) := by unfold wrap64; omega
  have e2 : wrap64 (56 - wrap64 (8 * (i : Int))) = ((56 - 8 * i : Nat) : Int) := by unfold wrap64; omega
  have e3 : IntKind.u64.wrap ((8 * n : Nat) : Int) = ((8 * n : Nat) : Int) := by rw [w64]; omega
  rw [e1, e2, e3]
  have h := byte_of (8 * n) (56 - 8 * i) (by omega)
  unfold lenB
  rw [← h]
  have e4 : shr .u64 ((8 * n : Nat) : Int) ((56 - 8 * i : Nat) : Int) = ((8 * n : Nat) : Int) / (2 : Int) ^ (56 - 8 * i) := by
    unfold shr
    simp
    rw [Nat.min_eq_left (by show 56 - 8 * i ≤ 64; omega)]
  rw [e4]
  rfl
theorem length_l0 (n : Nat) (hn : n < 1000000) : ∀ (r i k : Nat), i + r = 8 → r < k → ciboriumref06_length.l0 k (n : Int) ((List.range i).map fun q => ofB (lenB n q)) (i : Int) = some (lenL n) := by
  intro r
  induction r with
  | zero =>
    intro i k hi hk
    obtain ⟨k, rfl⟩ : ∃ k', k = k' + 1 := ⟨k - 1, by omega⟩
    obtain rfl : i = 8 := by omega
    unfold ciboriumref06_length.l0
    rw [if_neg (by omega)]
    rfl
  | succ r ih =>
    intro i k hi hk
    obtain ⟨k, rfl⟩ : ∃ k', k = k' + 1 := ⟨k - 1, by omega⟩
    unfold ciboriumref06_length.l0
    have e1 : wrap64 ((i : Int) + 1) = ((i + 1 : Nat) : Int) := by unfold wrap64; omega
    have e2 : 0 ≤ wrap64 (56 - wrap64 (8 * (i : Int))) := by unfold wrap64; omega
    rw [if_pos (by omega), if_pos e2, if_pos (by simp; omega), len_byte n i hn (by omega), e1]
    have h := ih (i + 1) k (by omega) (by omega)
    rw [List.range_succ, List.map_append] at h
    exact h
theorem length_f (n : Nat) (hn : n < 1000000) : ciboriumref06_length.f 10 (n : Int) = some (lenL n) := length_l0 n hn 8 0 10 rfl (by decide)
theorem length_t (n : Nat) (hn : n < 1000000) (w : World) : Calls Try.prog 50 #[.int .i64 (n : Int)] w fun e w' => ∃ v, e = .returned v ∧ Row.Is w' w.heap.size v (lenL n) ∧ Below w.heap.size w w' := by
  refine (ciboriumref06_length.calls 10 (n : Int) _ w (length_f n hn)).mono ?_
  rintro e w' ⟨v, rfl, hR, hb⟩
  exact ⟨v, rfl, Row.of_R hR, hb⟩
/-- All that is hashed. -/
def allL (l m : List Int) : List Int := padL l ++ padL m ++ lenL l.length ++ lenL m.length
theorem allL_len (l m : List Int) : (allL l m).length = 16 * ((l.length + 15) / 16 + (m.length + 15) / 16 + 1) := by
  unfold allL
  rw [List.length_append, List.length_append, List.length_append, padL_len, padL_len, lenL_len, lenL_len]
  omega
theorem allL_by (l m : List Int) (h1 : ∀ x ∈ l, 0 ≤ x ∧ x < 256) (h2 : ∀ x ∈ m, 0 ≤ x ∧ x < 256) : ∀ x ∈ allL l m, 0 ≤ x ∧ x < 256 := fun x hx => by
  unfold allL at hx
  rcases List.mem_append.1 hx with h | h
  · rcases List.mem_append.1 h with h | h
    · rcases List.mem_append.1 h with h | h
      · exact padL_by l h1 x h
      · exact padL_by m h2 x h
    · exact lenL_by _ x h
  · exact lenL_by _ x h
theorem getD_left {a b : List Int} {j : Nat} (h : j < a.length) : (a ++ b).getD j 0 = a.getD j 0 := by rw [List.getD_eq_getElem?_getD, List.getElem?_append_left h, ← List.getD_eq_getElem?_getD]
theorem getD_right {a b : List Int} {j : Nat} (h : a.length ≤ j) : (a ++ b).getD j 0 = b.getD (j - a.length) 0 := by rw [List.getD_eq_getElem?_getD, List.getElem?_append_right h, ← List.getD_eq_getElem?_getD]
theorem all_first (l m : List Int) (b i : Nat) (hb : b < (l.length + 15) / 16) (hi : i < 16) : chunk (allL l m) (16 * b) i = chunk l (16 * b) i := by
  unfold chunk allL
  have h := padL_len l
  rw [getD_left (by simp only [List.length_append, padL_len]; omega), getD_left (by simp only [List.length_append, padL_len]; omega), getD_left (by rw [h]; omega), padL_at]
theorem all_second (l m : List Int) (b i : Nat) (hb : b < (m.length + 15) / 16) (hi : i < 16) : chunk (allL l m) (16 * ((l.length + 15) / 16 + b)) i = chunk m (16 * b) i := by
  unfold chunk allL
  have h := padL_len l
  have h2 := padL_len m
  rw [getD_left (by simp only [List.length_append, padL_len]; omega), getD_left (by simp only [List.length_append, padL_len]; omega), getD_right (by rw [h]; omega), h, padL_at]
  congr 2
  omega
theorem all_last (l m : List Int) (i : Nat) (hi : i < 16) : chunk (allL l m) (16 * ((l.length + 15) / 16 + (m.length + 15) / 16)) i = if i < 8 then lenB l.length i else lenB m.length (i - 8) := by
  unfold chunk allL
  have h : (padL l ++ padL m).length = 16 * ((l.length + 15) / 16 + (m.length + 15) / 16) := by rw [List.length_append, padL_len, padL_len]; omega
  by_cases h8 : i < 8
  · rw [if_pos h8, getD_left (by rw [List.length_append, h, lenL_len]; omega), getD_right (by rw [h]; omega), h, Nat.add_sub_cancel_left, lenL_at _ _ h8, toB_ofB]
  · rw [if_neg h8, getD_right (by rw [List.length_append, h, lenL_len]; omega), List.length_append, h, lenL_len, show 16 * ((l.length + 15) / 16 + (m.length + 15) / 16) + i - (16 * ((l.length + 15) / 16 + (m.length + 15) / 16) + 8) = i - 8 by omega, lenL_at _ _ (by omega), toB_ofB]
theorem lenB_bit (n i t : Nat) (hi : i < 8) (ht : t < 8) : (lenB n i).getLsbD t = (8 * n).testBit (56 - 8 * i + t) := by
  unfold lenB
  rw [BitVec.getLsbD_ofNat, decide_eq_true ht, Bool.true_and, Nat.testBit_div_two_pow]
  congr 1
  omega
theorem blk_len (l m : Nat) : blkW (fun i => if i < 8 then lenB l i else lenB m (i - 8)) = lenW l m := by
  apply ext127
  intro j hj
  rw [blk_bit _ j hj]
  unfold lenW
  rw [BitVec.getLsbD_append]
  by_cases h : j < 64
  · rw [if_pos (by omega), lenB_bit _ _ _ (by omega) (by omega), if_neg (by omega), BitVec.getLsbD_ofNat, decide_eq_true (by omega), Bool.true_and]
    congr 1
    omega
  · rw [if_neg (by omega), lenB_bit _ _ _ (by omega) (by omega), if_pos (by omega), BitVec.getLsbD_ofNat, decide_eq_true (by omega), Bool.true_and]
    congr 1
    omega
theorem abs_first (H : W) (l m : List Int) : ∀ n, n ≤ (l.length + 15) / 16 → absN H 0#128 (allL l m) n = absN H 0#128 l n := by
  intro n
  induction n with
  | zero => intro _; rfl
  | succ n ih =>
    intro hn
    show gm (absN H _ _ n ^^^ blkW (chunk _ (16 * n))) H = gm (absN H _ l n ^^^ blkW (chunk l (16 * n))) H
    rw [ih (by omega), blkW_congr (f := chunk (allL l m) (16 * n)) (g := chunk l (16 * n)) (fun i hi => all_first l m n i (by omega) hi)]
theorem abs_second (H : W) (l m : List Int) : ∀ n, n ≤ (m.length + 15) / 16 → absN H 0#128 (allL l m) ((l.length + 15) / 16 + n) = absN H (absorb H 0#128 l) m n := by
  intro n
  induction n with
  | zero => intro _; exact abs_first H l m _ (Nat.le_refl _)
  | succ n ih =>
    intro hn
    show gm (absN H _ _ ((l.length + 15) / 16 + n) ^^^ blkW (chunk _ (16 * ((l.length + 15) / 16 + n)))) H = gm (absN H _ m n ^^^ blkW (chunk m (16 * n))) H
    rw [ih (by omega), blkW_congr (f := chunk (allL l m) (16 * ((l.length + 15) / 16 + n))) (g := chunk m (16 * n)) (fun i hi => all_second l m n i (by omega) hi)]
theorem abs_all (H : W) (l m : List Int) : absN H 0#128 (allL l m) ((l.length + 15) / 16 + (m.length + 15) / 16 + 1) = ghash H l m := by
  show gm (absN H _ _ ((l.length + 15) / 16 + (m.length + 15) / 16) ^^^ blkW (chunk _ (16 * ((l.length + 15) / 16 + (m.length + 15) / 16)))) H = gm (absorb H (absorb H 0#128 l) m ^^^ lenW l.length m.length) H
  rw [abs_second H l m _ (Nat.le_refl _), blkW_congr (f := chunk (allL l m) (16 * ((l.length + 15) / 16 + (m.length + 15) / 16))) (fun i hi => all_last l m i hi), blk_len]
  rfl
end Go.Proofs.Ytbebmbcjddibaaa.Gcm
/- What is said here: the document's Hash answers the field's hash. -/
namespace Go.Proofs.Ytbebmbcjddibaaa.Gcm
set_option linter.unusedVariables false
set_option linter.unusedSimpArgs false
open Go.RowKit Go.Proofs.YtbebmbcjddibaaaW.PrintWords Go.Proofs.YtbebmbcjddibaaaW.PrintLast Go.Proofs.YtbebmbcjddibaaaW.PrintMore Go.Proofs.Ytbebmbcjddibaaa.PG Gf Gfi Poly AesF Aes Lng
attribute [local go_sem ↓] ld23 st23
set_option maxRecDepth 100000 in
set_option maxHeartbeats 4000000 in
theorem rhash_calls (Hf : Nat → B) (A1 A2 : Option Addr) (c1 c2 : Nat) (l1 l2 : List Int) (w : World) (h1 : Txt w A1 c1 l1) (h2 : Txt w A2 c2 l2) :
    Calls Try.prog 39 #[.agg (cB 16 Hf), .slice A1 l1.length c1, .slice A2 l2.length c2] w fun e w' => ∃ Y, e = .returned (.agg (cB 16 Y)) ∧ blkW Y = ghash (blkW Hf) l1 l2 ∧ Below w.heap.size w w' := by
  have e1 : (w.alloc (.cells (cB 16 Hf) 37)).heap.size = w.heap.size + 1 := by simp
  have HH := Lib.hid ((Blk.Is.new w (cB 16 Hf) 37).alloc (.cells (cB 16 z16) 37))
  have HR := Lib.hid (Blk.Is.new (w.alloc (.cells (cB 16 Hf) 37)) (cB 16 z16) 37)
  rw [e1] at HR
  have HB := Lib.hid (((Below.refl _ w).alloc (Nat.le_refl _) (.cells (cB 16 Hf) 37)).alloc (by omega) (.cells (cB 16 z16) 37))
  have HT1 : Hid (∀ v : World, Below w.heap.size w v → Txt v A1 c1 l1) := fun v hb => h1.below hb
  have HT2 : Hid (∀ v : World, Below w.heap.size w v → Txt v A2 c2 l2) := fun v hb => h2.below hb
  have HF1 := Lib.hid h1.few
  have HF2 := Lib.hid h2.few
  have HBA := Lib.hid (allL_by l1 l2 h1.by_ h2.by_)
  clear e1 h1 h2
  go_enter Try.func39, Try.ntmps39
  go_wp2_with fail
  rw [lit16]
  generalize (w.alloc (.cells (cB 16 Hf) 37)).alloc (.cells (cB 16 z16) 37) = w0 at *
  generalize hg : w.heap.size = g at *
  have HG := Lib.hid hg
  clear hg
  -- ad, padded
  refine (padded_t (HT1.out w0 HB.out)).mono ?_
  rintro e w1 ⟨v1, rfl, hR, hb⟩
  have HV := Lib.hid (hR.lower (show g + 1 + 1 ≤ w0.heap.size from HR.out.lt))
  replace HB := Lib.hid (HB.out.trans (hb.mono (by have := HR.out.lt; omega)))
  replace HH := Lib.hid (HH.out.below hb HH.out.lt)
  replace HR := Lib.hid (HR.out.below hb HR.out.lt)
  clear hR hb
  go_wp2_with fail
  -- the text, padded, behind it
  refine (padded_t (HT2.out w1 HB.out)).mono ?_
  rintro e w2 ⟨v2, rfl, hR, hb⟩
  replace HV := Lib.hid (HV.out.below hb)
  replace HB := Lib.hid (HB.out.trans (hb.mono (by have := HR.out.lt; omega)))
  replace HH := Lib.hid (HH.out.below hb HH.out.lt)
  replace HR := Lib.hid (HR.out.below hb HR.out.lt)
  obtain ⟨Ax, cx, rfl, hx⟩ := row_txt' hR
  have hlen : (padL l1).length + (padL l2).length ≤ 100000000000000 := by rw [padL_len, padL_len]; have := HF1.out; have := HF2.out; omega
  have hbase : g + 1 + 1 ≤ w2.heap.size := HR.out.lt
  clear hR hb
  go_wp2_with (refine Row.appendRow (g + 1 + 1) _ _ v1 (padL l1) _ _ _ (padL l2) rfl rfl rfl rfl rfl HV.out hx hbase hlen ?_; intro v3 w3 q1 q2 q3 q4)
  replace HV := Lib.hid q1
  replace HB := Lib.hid (HB.out.trans (q2.mono (by omega)))
  replace HH := Lib.hid (HH.out.below q2 (by omega))
  replace HR := Lib.hid (HR.out.below q2 (by omega))
  clear hx hlen hbase q1 q2 q3 q4
  go_wp2_with fail
  -- the first length
  refine (length_t l1.length HF1.out w3).mono ?_
  rintro e w4 ⟨v4, rfl, hR, hb⟩
  replace HV := Lib.hid (HV.out.below hb)
  replace HB := Lib.hid (HB.out.trans (hb.mono (by have := HR.out.lt; omega)))
  replace HH := Lib.hid (HH.out.below hb HH.out.lt)
  replace HR := Lib.hid (HR.out.below hb HR.out.lt)
  obtain ⟨Ay, cy, rfl, hx⟩ := row_txt' hR
  have hlen : (padL l1 ++ padL l2).length + (lenL l1.length).length ≤ 100000000000000 := by rw [List.length_append, padL_len, padL_len, lenL_len]; have := HF1.out; have := HF2.out; omega
  have hbase : g + 1 + 1 ≤ w4.heap.size := HR.out.lt
  clear hR hb
  go_wp2_with (refine Row.appendRow (g + 1 + 1) _ _ v3 (padL l1 ++ padL l2) _ _ _ (lenL l1.length) rfl rfl rfl rfl rfl HV.out hx hbase hlen ?_; intro v5 w5 q1 q2 q3 q4)
  replace HV := Lib.hid q1
  replace HB := Lib.hid (HB.out.trans (q2.mono (by omega)))
  replace HH := Lib.hid (HH.out.below q2 (by omega))
  replace HR := Lib.hid (HR.out.below q2 (by omega))
  clear hx hlen hbase q1 q2 q3 q4
  go_wp2_with fail
  -- the second one
  refine (length_t l2.length HF2.out w5).mono ?_
  rintro e w6 ⟨v6, rfl, hR, hb⟩
  replace HV := Lib.hid (HV.out.below hb)
  replace HB := Lib.hid (HB.out.trans (hb.mono (by have := HR.out.lt; omega)))
  replace HH := Lib.hid (HH.out.below hb HH.out.lt)
  replace HR := Lib.hid (HR.out.below hb HR.out.lt)
  obtain ⟨Az, cz, rfl, hx⟩ := row_txt' hR
  have hlen : (padL l1 ++ padL l2 ++ lenL l1.length).length + (lenL l2.length).length ≤ 100000000000000 := by rw [List.length_append, List.length_append, padL_len, padL_len, lenL_len, lenL_len]; have := HF1.out; have := HF2.out; omega
  have hbase : g + 1 + 1 ≤ w6.heap.size := HR.out.lt
  clear hR hb
  go_wp2_with (refine Row.appendRow (g + 1 + 1) _ _ v5 (padL l1 ++ padL l2 ++ lenL l1.length) _ _ _ (lenL l2.length) rfl rfl rfl rfl rfl HV.out hx hbase hlen ?_; intro v7 w7 q1 q2 q3 q4)
  replace HV := Lib.hid (show Row.Is w7 (g + 1 + 1) v7 (allL l1 l2) from q1)
  replace HB := Lib.hid (HB.out.trans (q2.mono (by omega)))
  replace HH := Lib.hid (HH.out.below q2 (by omega))
  replace HR := Lib.hid (HR.out.below q2 (by omega))
  clear hx hlen hbase q1 q2 q3 q4
  obtain ⟨M, hM⟩ : ∃ M : Nat, M = (l1.length + 15) / 16 + (l2.length + 15) / 16 + 1 := ⟨_, rfl⟩
  have HAL : Hid ((allL l1 l2).length = 16 * M) := by rw [hM]; exact allL_len l1 l2
  have HAB : Hid (absN (blkW Hf) 0#128 (allL l1 l2) M = ghash (blkW Hf) l1 l2) := by rw [hM]; exact abs_all _ _ _
  have HMB : Hid (0 < M ∧ M < 200000) := by have := HF1.out; have := HF2.out; show 0 < M ∧ M < 200000; omega
  clear hM
  generalize allL l1 l2 = al at *
  obtain ⟨Av, cv, rfl, _⟩ := row_txt' HV.out
  rw [HAL.out] at HV ⊢
  obtain ⟨ga, rfl, hga⟩ := HV.out.head (by rw [HAL.out]; have := HMB.out; omega)
  have hgl := (HV.out.lt ga rfl).2
  have HGA : Hid (g + 1 + 1 ≤ ga ∧ ga < w7.heap.size) := ⟨hga, hgl⟩
  clear hga hgl
  -- the sum
  have HY := Lib.hid (Blk.Is.new w7 (cB 16 z16) 37)
  replace HV := Lib.hid (HV.out.alloc (.cells (cB 16 z16) 37))
  replace HH := Lib.hid (HH.out.alloc (.cells (cB 16 z16) 37))
  replace HB := Lib.hid (HB.out.alloc (by have := HR.out.lt; omega) (.cells (cB 16 z16) 37))
  have HGY : Hid (g + 1 < w7.heap.size) := HR.out.lt
  replace HR := Lib.hid (HR.out.alloc (.cells (cB 16 z16) 37))
  go_wp2_with fail
  try rw [lit16]
  generalize w7.alloc (.cells (cB 16 z16) 37) = w8 at *
  generalize w7.heap.size = gy at *
  go_loopw [9, 10, 27, 28, 29, 30, 31, 32, 33, 34, 35, 36, 37, 38, 39, 40, 41, 42, 43, 44, 45, 46, 47, 48, 49, 50, 51] (fun v9 v10 v27 v28 v29 v30 v31 v32 v33 v34 v35 v36 v37 v38 v39 v40 v41 v42 v43 v44 v45 v46 v47 v48 v49 v50 v51 wr => ∃ (a n : Nat) (Y : Nat → B), v9 = .int .i64 (a : Int) ∧ Hid (a = 16 * n) ∧ a ≤ 16 * M ∧ Hid (blkW Y = absN (blkW Hf) 0#128 al n) ∧ Hid (Row.Is wr (g + 1 + 1) (.slice (some ⟨ga, 0, none⟩) (16 * M) cv) al) ∧ Hid (Blk.Is wr gy (cB 16 Y) 37) ∧ Hid (Blk.Is wr g (cB 16 Hf) 37) ∧ Hid (Blk.Is wr (g + 1) (cB 16 z16) 37) ∧ Hid (Below g w wr)) (fun v9 _ _ _ _ _ _ _ _ _ _ _ _ _ _ _ _ _ _ _ _ _ _ _ _ _ _ _ => 16 * M - (intOf v9).toNat)
  case atStart => exact ⟨0, 0, z16, rfl, rfl, Nat.zero_le _, by show blkW z16 = 0#128; decide +kernel, HV, HY, HH, HR, HB⟩
  case round =>
    clear HV HY HH HR HB
    obtain ⟨a, n, Y, rfl, HA, ha, HYE, HV, HY, HH, HR, HB⟩ := hrel
    obtain ⟨wo, rfl⟩ : ∃ wo, wo = wr := ⟨_, rfl⟩
    have hmb := HMB.out
    by_cases hlt : a < 16 * M
    · have HL := Lib.hid hlt
      have hltI : (a : Int) < 16 * (M : Int) := by omega
      go_wp2_with fail
      rw [← zx_zero Y (chunk al a)] at HY
      go_loopw [10, 33, 34, 35, 36, 37, 38, 39, 40, 41, 42, 43, 44, 45, 46, 47, 48] (fun v10 v33 v34 v35 v36 v37 v38 v39 v40 v41 v42 v43 v44 v45 v46 v47 v48 wr => ∃ (k : Nat), k ≤ 16 ∧ v10 = .int .i64 (k : Int) ∧ Hid (Row.Is wr (g + 1 + 1) (.slice (some ⟨ga, 0, none⟩) (16 * M) cv) al) ∧ Hid (Blk.Is wr gy (cB 16 (zx Y (chunk al a) k)) 37) ∧ Hid (Blk.Is wr g (cB 16 Hf) 37) ∧ Hid (Blk.Is wr (g + 1) (cB 16 z16) 37) ∧ Hid (Below g w wr)) (fun v10 _ _ _ _ _ _ _ _ _ _ _ _ _ _ _ _ _ => 16 - (intOf v10).toNat)
      case atStart => exact ⟨0, by omega, rfl, HV, HY, HH, HR, HB⟩
      case round =>
        clear HV HY HH HR HB
        obtain ⟨k, hk, rfl, HV, HY, HH, HR, HB⟩ := hrel
        obtain ⟨wi, rfl⟩ : ∃ wi, wi = wr := ⟨_, rfl⟩
        by_cases hk16 : k < 16
        · obtain ⟨j, hj⟩ : ∃ j : Nat, j = a + k := ⟨_, rfl⟩
          have hjI : (a : Int) + (k : Int) = (j : Int) := by omega
          have hjl : j < 16 * M := by have := HA.out; omega
          have c1 := (HV.out.cell j (by rw [HAL.out]; exact hjl)).1
          have hm : al.getD j 0 ∈ al := by rw [List.getD_eq_getElem?_getD, List.getElem?_eq_getElem (by rw [HAL.out]; exact hjl)]; exact List.getElem_mem _
          have ex : al.getD j 0 = ofB (chunk al a k) := by
            unfold chunk
            rw [hj] at hm ⊢
            exact (ofB_toB (HBA.out _ hm).1 (HBA.out _ hm).2).symm
          rw [ex] at c1
          have c0 : wi.cell? ⟨gy, k, none⟩ = some (.int .u8 (ofB (Y k))) := by rw [HY.out.cell, cB_get 16 _ _ hk16]; unfold zx; rw [if_neg (by omega)]
          have f0 := HY.out.free k
          have hx := bits_xor (Y k) (chunk al a k)
          have HN := Lib.hid (zx_next Y (chunk al a) k)
          generalize Y k ^^^ chunk al a k = nv at *
          generalize ofB (chunk al a k) = xv at *
          have HK := Lib.hid hk16
          have hkI : (k : Int) < 16 := by omega
          have hjlI : (j : Int) < 16 * (M : Int) := by omega
          clear hm ex hj
          go_wp2_with fail
          go_region
          go_wp2_with fail
          go_roundw
          case rel =>
            refine ⟨k + 1, by have := HK.out; omega, by go_num, (HV.out.other (a := ⟨gy, k, none⟩) (by intro e; injection e with e; have := HGA.out; simp at e; omega) _).below (Below.refl _ _).drew, ?_, (HH.out.other (by have := HGY.out; show g ≠ gy; omega) _).drew, (HR.out.other (by have := HGY.out; show g + 1 ≠ gy; omega) _).drew, (HB.out.setCell (by have := HGY.out; show g ≤ gy; omega) _).drew⟩
            have h := (HY.out.set k (.int .u8 (ofB nv))).drew
            rw [cB_set, HN.out] at h
            exact h
          case measure => have := HK.out; simp [intOf]; omega
        · obtain rfl : k = 16 := by omega
          have lh := ld16_is HH.out
          have ly := ld16_is HY.out
          go_wp2_with fail
          refine (rtimes_calls _ Hf _).mono ?_
          rintro e w9 ⟨Z, rfl, hz, hb⟩
          have HZE : Hid (blkW Z = absN (blkW Hf) 0#128 al (n + 1)) := by
            show blkW Z = gm (absN (blkW Hf) 0#128 al n ^^^ blkW (chunk al (16 * n))) (blkW Hf)
            rw [hz, zx_end, HYE.out, HA.out]
          clear hz lh ly
          replace HB := Lib.hid (HB.out.trans (hb.mono (by have := HY.out.lt; have := HGY.out; omega)))
          replace HV := Lib.hid (HV.out.below hb)
          replace HH := Lib.hid (HH.out.below hb HH.out.lt)
          replace HR := Lib.hid (HR.out.below hb HR.out.lt)
          replace HY := Lib.hid (HY.out.below hb HY.out.lt)
          clear hb
          have hss := Blk.store_row (P := Try.prog) (t := 37) (cB 16 Z) HY.out (by rw [cB_size]; kernel_rfl) (by rw [cB_size, cB_size]) (cB_one _ _)
          have hkp : Keeps gy w9 (w9.setRow gy (cB 16 Z)) := ⟨Blk.below_setRow (Below.refl _ _) (Nat.le_refl _) _, fun k _ hk => setRow_other w9 gy k _ hk⟩
          have HV9 := Lib.hid (HV.out.move (fun k hk => hkp.rest k (HV.out.lt k hk).2 (fun e => by injection hk with hk; have := HGA.out; simp at hk; omega)))
          have HH9 := Lib.hid (hkp.is HH.out (by have := HGY.out; omega))
          have HR9 := Lib.hid (hkp.is HR.out (by have := HGY.out; omega))
          have HY9 := Lib.hid (HY.out.setRow (cB 16 Z))
          have HB9 := Lib.hid (HB.out.trans (hkp.below.mono (by have := HGY.out; omega)))
          clear hkp
          go_wp2_with fail
          go_roundw
          case rel =>
            refine ⟨a + 16, n + 1, Z, by go_num, by show a + 16 = 16 * (n + 1); have := HA.out; omega, by have := HA.out; have := HL.out; omega, HZE, HV9, HY9, HH9, HR9, HB9⟩
          case measure => have := HL.out; simp [intOf]; omega
    · have hn : n = M := by have := HA.out; omega
      have hll := ld16_is HY.out
      have hss := Blk.store_row (P := Try.prog) (t := 37) (cB 16 Y) HR.out (by rw [cB_size]; kernel_rfl) (by rw [cB_size, cB_size]) (cB_one _ _)
      have HR5 := Lib.hid (HR.out.setRow (cB 16 Y))
      have HB5 := Lib.hid (Blk.below_setRow HB.out (show g ≤ g + 1 by omega) (cB 16 Y))
      have hltI : ¬ (a : Int) < 16 * (M : Int) := by omega
      have HN := Lib.hid hn
      clear hn
      go_wp2_with fail
      refine bodyPost_ret (results_cell_row rfl _ _ (g + 1) 37 (cB 16 Y) (0, 0) _ rfl HR5.out Try.underlying37 rfl (by rw [cB_size]; kernel_rfl)) rfl ?_
      exact ⟨Y, rfl, by rw [HYE.out, HN.out]; exact HAB.out, by rw [HG.out]; exact HB5.out⟩
end Go.Proofs.Ytbebmbcjddibaaa.Gcm
