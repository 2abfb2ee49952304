/- What is said here: the program's tag. -/
import Derived.Test.YtbebmbcjddibaaaGt
namespace Go.Proofs.Ytbebmbcjddibaaa.Gcm
set_option linter.unusedVariables false
set_option linter.unusedSimpArgs false
open Go.RowKit Go.Proofs.YtbebmbcjddibaaaW.PrintWords Go.Proofs.YtbebmbcjddibaaaW.PrintLast Go.Proofs.YtbebmbcjddibaaaW.PrintMore Go.Proofs.Ytbebmbcjddibaaa.PG Gf Gfi Poly AesF Aes Lng
theorem bd37 (ps : Array (Nat × Value)) : Instr.build 37 ps = bd 37 ps := rfl
attribute [local go_sem ↓] ld53 st53 ld23 st23 ld74 st74 bd37
theorem bd_zero37 (W : World) : (bd 37 #[]).run Try.prog W = .ok (.agg (cB 16 z16)) W := by kernel_rfl
/-- A block's bytes as a text. -/
def bytesL (f : Nat → B) : List Int := (List.range 16).map fun q => ofB (f q)
theorem bytesL_at (f : Nat → B) (i : Nat) (h : i < 16) : (bytesL f).getD i 0 = ofB (f i) := by
  unfold bytesL
  rw [List.getD_eq_getElem?_getD, List.getElem?_map, List.getElem?_range h]; rfl
theorem bytesL_len (f : Nat → B) : (bytesL f).length = 16 := by simp [bytesL]
theorem read_blk {w : World} {b : Nat} {f : Nat → B} {T : TypeId} (h : Blk.Is w b (cB 16 f) T) : Calls Try.prog 37 #[.slice (some ⟨b, 0, none⟩) 16 16] w fun e' w' => e' = .returned (.agg (Lw (blkW f))) ∧ Below w.heap.size w w' := by
  have hC : Kd.C (Kd.int .u8) w (some ⟨b, 0, none⟩) (bytesL f).length (bytesL f) := by
    refine Kd.C_of_reads (d := (0 : Int)) (h1 := fun _ => rfl) ⟨rfl, by rw [bytesL_len]; omega, fun _ => ⟨⟨b, 0, none⟩, rfl, fun j hj => ?_⟩⟩
    rw [bytesL_len] at hj
    rw [bytesL_at f j hj]
    have e : (⟨b, 0, none⟩ : Addr).add j = ⟨b, j, none⟩ := by rw [Addr.add_mid, Nat.zero_add]
    rw [e, h.cell]
    exact cB_get 16 f j hj
  have h2 := gcm_read.calls 40 (some ⟨b, 0, none⟩) 16 (bytesL f) _ _ w hC (by rw [bytesL_len]; exact Nat.le_refl _) (read_f _ f (fun i hi => bytesL_at f i hi))
  rw [bytesL_len] at h2
  exact h2
/-- A long element's byte q. -/
def byteW (Y : W) (q : Nat) : B := (Y >>> (120 - 8 * q)).setWidth 8
theorem byte64 (u : U) : IntKind.u8.wrap (o64 u) = ofB (u.setWidth 8) := by
  show (o64 u) % 256 = _
  unfold o64 ofB
  rw [BitVec.toNat_setWidth]
  show _ = ((u.toNat % 256 : Nat) : Int)
  omega
theorem byte_hi (Y : W) (i : Nat) (h : i < 8) : (hi Y >>> (56 - 8 * i)).setWidth 8 = byteW Y i := by
  unfold byteW
  apply BitVec.eq_of_getLsbD_eq
  intro j hj
  rw [BitVec.getLsbD_setWidth, BitVec.getLsbD_setWidth, BitVec.getLsbD_ushiftRight, BitVec.getLsbD_ushiftRight, hi_bit _ _ (by omega)]
  congr 2
  omega
theorem byte_lo (Y : W) (i : Nat) (h : i < 8) : (lo Y >>> (56 - 8 * i)).setWidth 8 = byteW Y (8 + i) := by
  unfold byteW
  apply BitVec.eq_of_getLsbD_eq
  intro j hj
  rw [BitVec.getLsbD_setWidth, BitVec.getLsbD_setWidth, BitVec.getLsbD_ushiftRight, BitVec.getLsbD_ushiftRight, lo_bit _ _ (by omega)]
  congr 2
  omega
def tagF (first : Nat → B) (Y : W) : Nat → B := fun q => first q ^^^ byteW Y q
/-- The tag, as far as i of its bytes, on both sides, are told. -/
def tagS (first : Nat → B) (Y : W) (i : Nat) : Nat → B := fun q => if q < i ∨ (8 ≤ q ∧ q < 8 + i) then tagF first Y q else 0#8
theorem tagS_zero (first : Nat → B) (Y : W) : tagS first Y 0 = z16 := by
  funext q
  unfold tagS
  rw [if_neg (by omega)]; rfl
theorem tagS_next (first : Nat → B) (Y : W) (i : Nat) (h : i < 8) : updB (updB (tagS first Y i) i (tagF first Y i)) (8 + i) (tagF first Y (8 + i)) = tagS first Y (i + 1) := by
  funext q
  unfold updB tagS
  by_cases e1 : q = 8 + i
  · subst e1
    rw [if_pos rfl, if_pos (by omega)]
  · rw [if_neg e1]
    by_cases e2 : q = i
    · subst e2
      rw [if_pos rfl, if_pos (by omega)]
    · rw [if_neg e2]
      by_cases e3 : q < i ∨ (8 ≤ q ∧ q < 8 + i)
      · rw [if_pos e3, if_pos (by omega)]
      · rw [if_neg e3, if_neg (by omega)]
set_option maxRecDepth 100000 in
set_option maxHeartbeats 4000000 in
theorem tag_calls (K : Nat → B) (E : (Nat → B) → Nat → B) (hE : ∀ (b : Nat → B) (w : World), Calls Try.prog 35 #[.agg (cB 752 K), .agg (cB 16 b)] w fun e w' => e = .returned (.agg (cB 16 (E b))) ∧ Below w.heap.size w w')
    (first : Nat → B) (A1 A2 : Option Addr) (c1 c2 : Nat) (l1 l2 : List Int) (w : World) (h1 : Txt w A1 c1 l1) (h2 : Txt w A2 c2 l2) :
    Calls Try.prog 25 #[.agg (cB 752 K), .agg (cB 16 first), .slice A1 l1.length c1, .slice A2 l2.length c2] w fun e w' => e = .returned (.agg (cB 16 (tagF first (ghash (blkW (E z16)) l1 l2)))) ∧ Below w.heap.size w w' := by
  have e1 : (w.alloc (.cells (cB 752 K) 53)).heap.size = w.heap.size + 1 := by simp
  have e2 : ((w.alloc (.cells (cB 752 K) 53)).alloc (.cells (cB 16 first) 37)).heap.size = w.heap.size + 1 + 1 := by simp
  have HK0 := Lib.hid (((Blk.Is.new w (cB 752 K) 53).alloc (.cells (cB 16 first) 37)).alloc (.cells (cB 16 z16) 37))
  have HF0 := Lib.hid ((Blk.Is.new (w.alloc (.cells (cB 752 K) 53)) (cB 16 first) 37).alloc (.cells (cB 16 z16) 37))
  have HR0 := Lib.hid (Blk.Is.new ((w.alloc (.cells (cB 752 K) 53)).alloc (.cells (cB 16 first) 37)) (cB 16 z16) 37)
  rw [e1] at HF0
  rw [e2] at HR0
  have HB0 := Lib.hid ((((Below.refl _ w).alloc (Nat.le_refl _) (.cells (cB 752 K) 53)).alloc (by omega) (.cells (cB 16 first) 37)).alloc (by omega) (.cells (cB 16 z16) 37))
  have HT1 : Hid (∀ v : World, Below w.heap.size w v → Txt v A1 c1 l1) := fun v hb => h1.below hb
  have HT2 : Hid (∀ v : World, Below w.heap.size w v → Txt v A2 c2 l2) := fun v hb => h2.below hb
  clear e1 e2 h1 h2
  have hb37 := bd_zero37
  have lk : (Blk.ld 53 (.pointer (some ⟨w.heap.size, 0, none⟩))).run Try.prog _ = .ok _ _ := Blk.load_row HK0.out (P := Try.prog) (t := 53) Try.underlying53 rfl (by rw [cB_size]; kernel_rfl)
  rw [← lit16] at lk HK0 HF0 HR0 HB0
  go_enter Try.func25, Try.ntmps25
  go_wp2_with fail
  rw [lit16] at lk HK0 HF0 HR0 HB0 ⊢
  clear lk
  generalize ((w.alloc (.cells (cB 752 K) 53)).alloc (.cells (cB 16 first) 37)).alloc (.cells (cB 16 z16) 37) = w0 at *
  generalize hg : w.heap.size = g at *
  have HG := Lib.hid hg
  clear hg
  refine (hE z16 w0).mono ?_
  rintro e w1 ⟨rfl, hb⟩
  have HK1 := Lib.hid (HK0.out.below hb HK0.out.lt)
  have HF1 := Lib.hid (HF0.out.below hb HF0.out.lt)
  have HR1 := Lib.hid (HR0.out.below hb HR0.out.lt)
  have HB1 := Lib.hid (HB0.out.trans (hb.mono (by have := HR0.out.lt; omega)))
  clear hb HK0 HF0 HR0 HB0
  obtain ⟨h, hh⟩ : ∃ h, h = E z16 := ⟨_, rfl⟩
  rw [← hh]
  have HH := Lib.hid hh
  clear hh
  have hst := st_new w1 h
  have HZ2 := Lib.hid (Blk.Is.new w1 (cB 16 h) 37)
  have HF2 := Lib.hid (HF1.out.alloc (.cells (cB 16 h) 37))
  have HR2 := Lib.hid (HR1.out.alloc (.cells (cB 16 h) 37))
  have HB2 := Lib.hid (HB1.out.alloc (by have := HR1.out.lt; omega) (.cells (cB 16 h) 37))
  clear HK1 HF1 HR1 HB1
  go_wp2_with fail
  clear hst
  generalize w1.alloc (.cells (cB 16 h) 37) = w2 at *
  refine (read_blk HZ2.out).mono ?_
  rintro e w3 ⟨rfl, hb⟩
  have HF3 := Lib.hid (HF2.out.below hb HF2.out.lt)
  have HR3 := Lib.hid (HR2.out.below hb HR2.out.lt)
  have HB3 := Lib.hid (HB2.out.trans (hb.mono (by have := HR2.out.lt; omega)))
  clear hb HF2 HR2 HB2 HZ2
  go_wp2_with fail
  refine (hash_calls (blkW h) A1 A2 c1 c2 l1 l2 w3 (HT1.out w3 HB3.out) (HT2.out w3 HB3.out)).mono ?_
  rintro e w4 ⟨rfl, hb⟩
  have HF4 := Lib.hid (HF3.out.below hb HF3.out.lt)
  have HR4 := Lib.hid (HR3.out.below hb HR3.out.lt)
  have HB4 := Lib.hid (HB3.out.trans (hb.mono (by have := HR3.out.lt; omega)))
  clear hb HF3 HR3 HB3
  obtain ⟨Y, hY⟩ : ∃ Y, Y = ghash (blkW h) l1 l2 := ⟨_, rfl⟩
  rw [← hY]
  have HYE := Lib.hid hY
  clear hY
  have hst := st74_new w4 Y
  have HY5 := Lib.hid (Blk.Is.new w4 (Lw Y) 74)
  have HF5 := Lib.hid (HF4.out.alloc (.cells (Lw Y) 74))
  have HR5 := Lib.hid (HR4.out.alloc (.cells (Lw Y) 74))
  have HB5 := Lib.hid (HB4.out.alloc (by have := HR4.out.lt; omega) (.cells (Lw Y) 74))
  have HGY := Lib.hid (show g + 1 + 1 < w4.heap.size from HR4.out.lt)
  clear HF4 HR4 HB4
  go_wp2_with fail
  clear hst
  generalize w4.alloc (.cells (Lw Y) 74) = w5 at *
  generalize w4.heap.size = gy at *
  go_loopw [11, 20, 21, 22, 23, 24, 25, 26, 27, 28, 29, 30, 31, 32, 33, 34, 35, 36, 37, 38, 39, 40, 41, 42, 43, 44, 45, 46, 47, 48, 49, 50, 51] (fun v11 v20 v21 v22 v23 v24 v25 v26 v27 v28 v29 v30 v31 v32 v33 v34 v35 v36 v37 v38 v39 v40 v41 v42 v43 v44 v45 v46 v47 v48 v49 v50 v51 wr => ∃ (i : Nat), i ≤ 8 ∧ v20 = .int .i64 (i : Int) ∧ Hid (Blk.Is wr (g + 1) (cB 16 first) 37) ∧ Hid (Blk.Is wr (g + 1 + 1) (cB 16 (tagS first Y i)) 37) ∧ Hid (Blk.Is wr gy (Lw Y) 74) ∧ Hid (Below g w wr)) (fun _ v20 _ _ _ _ _ _ _ _ _ _ _ _ _ _ _ _ _ _ _ _ _ _ _ _ _ _ _ _ _ _ _ _ => 8 - (intOf v20).toNat)
  case atStart => exact ⟨0, by omega, rfl, HF5, by rw [tagS_zero]; exact HR5, HY5, HB5⟩
  case round =>
    clear HF5 HR5 HY5 HB5
    obtain ⟨i, hi_, rfl, HF, HR, HY, HB⟩ := hrel
    by_cases hlt : i < 8
    · have q0 := (Lw_cell HY.out).1
      have q1 := (Lw_cell HY.out).2
      have a0 : wr.cell? ⟨g + 1, i, none⟩ = some (.int .u8 (ofB (first i))) := by rw [HF.out.cell, cB_get 16 _ _ (by omega)]
      have b0 : wr.cell? ⟨g + 1 + 1, i, none⟩ = some (.int .u8 (ofB (tagS first Y i i))) := by rw [HR.out.cell, cB_get 16 _ _ (by omega)]
      have f0 := HR.out.free i
      have hq0 : o64 (hi Y) / 2 ^ (56 - 8 * i) % 256 = ofB (byteW Y i) := by rw [shr64, ← byte_hi Y i hlt]; exact byte64 _
      have hx0 : Go.bits .xor .u8 (ofB (first i)) (ofB (byteW Y i)) = ofB (tagF first Y i) := bits_xor _ _
      have hq1 : o64 (lo Y) / 2 ^ (56 - 8 * i) % 256 = ofB (byteW Y (8 + i)) := by rw [shr64, ← byte_lo Y i hlt]; exact byte64 _
      have hx1 : Go.bits .xor .u8 (ofB (first (8 + i))) (ofB (byteW Y (8 + i))) = ofB (tagF first Y (8 + i)) := bits_xor _ _
      have HNX := Lib.hid (tagS_next first Y i hlt)
      have HI := Lib.hid hlt
      go_wp2_with fail
      generalize decide ((i : Int) < 8) = di at *
      go_region
      clear a0 b0 f0 q0 hq0 hx0
      have HF6 := Lib.hid ((HF.out.other (a := ⟨g + 1 + 1, i, none⟩) (by simp) (.int .u8 (ofB (tagF first Y i)))).drew)
      have HY6 := Lib.hid ((HY.out.other (a := ⟨g + 1 + 1, i, none⟩) (by have := HGY.out; simp; omega) (.int .u8 (ofB (tagF first Y i)))).drew)
      have hr6 := (HR.out.set i (.int .u8 (ofB (tagF first Y i)))).drew
      rw [cB_set] at hr6
      have HR6 := Lib.hid hr6
      have HB6 := Lib.hid ((HB.out.setCell (p := ⟨g + 1 + 1, i, none⟩) (by show g ≤ g + 1 + 1; omega) (.int .u8 (ofB (tagF first Y i)))).drew)
      clear q1 HF HY HR HB hr6
      generalize (wr.setCell ⟨g + 1 + 1, i, none⟩ (.int .u8 (ofB (tagF first Y i)))).drew = w6 at *
      have q1 := (Lw_cell HY6.out).2
      have a0 : w6.cell? ⟨g + 1, 8 + i, none⟩ = some (.int .u8 (ofB (first (8 + i)))) := by rw [HF6.out.cell, cB_get 16 _ _ (by have := HI.out; omega)]
      have b0 : w6.cell? ⟨g + 1 + 1, 8 + i, none⟩ = some (.int .u8 (ofB (updB (tagS first Y i) i (tagF first Y i) (8 + i)))) := by rw [HR6.out.cell, cB_get 16 _ _ (by have := HI.out; omega)]
      have f0 := HR6.out.free (8 + i)
      generalize ofB (updB (tagS first Y i) i (tagF first Y i) (8 + i)) = cc at *
      go_wp2_with fail
      go_region
      clear a0 b0 f0 q1 hq1 hx1
      go_wp2_with fail
      go_roundw
      case rel =>
        refine ⟨i + 1, by have := HI.out; omega, by go_num, (HF6.out.other (by simp) _).drew, ?_, (HY6.out.other (by have := HGY.out; simp; omega) _).drew, (HB6.out.setCell (by show g ≤ g + 1 + 1; omega) _).drew⟩
        have h := (HR6.out.set (8 + i) (.int .u8 (ofB (tagF first Y (8 + i))))).drew
        rw [cB_set, HNX.out] at h
        exact h
      case measure => have := HI.out; simp [intOf]; omega
    · obtain rfl : i = 8 := by omega
      have e8 : cB 16 (tagS first Y 8) = cB 16 (tagF first Y) := cB_congr (fun q hq => by unfold tagS; rw [if_pos (by omega)])
      rw [e8] at HR
      clear e8
      have hll := Blk.load_row HR.out (P := Try.prog) (t := 37) Try.underlying37 rfl (by rw [cB_size]; kernel_rfl)
      have hss := Blk.store_same HR.out (P := Try.prog) (t := 37) (by rw [cB_size]; kernel_rfl) (cB_one _ _)
      have hfin : tagF first Y = tagF first (ghash (blkW (E z16)) l1 l2) := by rw [HYE.out, HH.out]
      have HFIN := Lib.hid hfin
      clear hfin
      go_wp2_with fail
      refine bodyPost_ret (results_cell_row rfl _ _ (g + 1 + 1) 37 (cB 16 (tagF first Y)) (0, 0) _ rfl HR.out Try.underlying37 rfl (by rw [cB_size]; kernel_rfl)) rfl ?_
      exact ⟨by rw [HFIN.out], by rw [HG.out]; exact HB.out⟩
end Go.Proofs.Ytbebmbcjddibaaa.Gcm
