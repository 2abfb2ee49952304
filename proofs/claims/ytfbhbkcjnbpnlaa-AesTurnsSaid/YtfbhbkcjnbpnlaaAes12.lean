/- What is said here: what the document's Back makes of a block. -/
import Derived.Test.YtfbhbkcjnbpnlaaAes11
namespace Go.Proofs.Ytfbhbkcjnbpnlaa.Aes
set_option linter.unusedVariables false
set_option linter.unusedSimpArgs false
open Go.RowKit Go.Proofs.YtfbhbkcjnbpnlaaW.PrintWords Go.Proofs.YtfbhbkcjnbpnlaaW.PrintLast Go.Proofs.YtfbhbkcjnbpnlaaW.PrintMore
open Gf Gfi Poly AesF
attribute [local go_sem ↓] ld4 st4 ld31 st31 ld23 st23
set_option maxRecDepth 100000 in
set_option maxHeartbeats 2000000 in
theorem rback_calls (K b : Nat → B) (w : World) : Calls Try.prog 13 #[.agg (cB 752 K), .agg (cB 16 b)] w fun e w' => e = .returned (.agg (cB 16 (addS K 0 (rbk K b 14)))) ∧ Below w.heap.size w w' := by
  have e1 : (w.alloc (.cells (cB 752 K) 31)).heap.size = w.heap.size + 1 := by simp
  have e2 : ((w.alloc (.cells (cB 752 K) 31)).alloc (.cells (cB 16 b) 23)).heap.size = w.heap.size + 1 + 1 := by simp
  have HK0 := Lib.hid (((Blk.Is.new w (cB 752 K) 31).alloc (.cells (cB 16 b) 23)).alloc (.cells (cB 16 z16) 23))
  have HB0 := Lib.hid ((Blk.Is.new (w.alloc (.cells (cB 752 K) 31)) (cB 16 b) 23).alloc (.cells (cB 16 z16) 23))
  have HR0 := Lib.hid (Blk.Is.new ((w.alloc (.cells (cB 752 K) 31)).alloc (.cells (cB 16 b) 23)) (cB 16 z16) 23)
  rw [e1] at HB0
  rw [e2] at HR0
  have HW0 := Lib.hid ((((Below.refl _ w).alloc (Nat.le_refl _) (.cells (cB 752 K) 31)).alloc (by omega) (.cells (cB 16 b) 23)).alloc (by omega) (.cells (cB 16 z16) 23))
  have HS0 : Hid (w.heap.size ≤ (((w.alloc (.cells (cB 752 K) 31)).alloc (.cells (cB 16 b) 23)).alloc (.cells (cB 16 z16) 23)).heap.size) := HW0.out.size
  clear e1 e2
  go_enter Try.func13, Try.ntmps13
  go_wp2_with fail
  rw [lit16]
  generalize ((w.alloc (.cells (cB 752 K) 31)).alloc (.cells (cB 16 b) 23)).alloc (.cells (cB 16 z16) 23) = w0 at *
  generalize hg : w.heap.size = g at *
  have HG := Lib.hid hg
  clear hg HS0
  go_loopw [5, 6, 7, 8, 9, 10, 11, 12, 13, 14, 15, 16, 17, 18, 19, 20, 21, 22, 23, 24, 25, 26, 27, 28, 29, 30, 31, 32, 33, 34, 35, 36, 37, 38, 39, 40, 41, 42, 43, 44, 45, 46, 47] (fun v5 v6 v7 v8 v9 v10 v11 v12 v13 v14 v15 v16 v17 v18 v19 v20 v21 v22 v23 v24 v25 v26 v27 v28 v29 v30 v31 v32 v33 v34 v35 v36 v37 v38 v39 v40 v41 v42 v43 v44 v45 v46 v47 wr => ∃ (r : Nat), r ≤ 14 ∧ v5 = .int .i64 (r : Int) ∧ Hid (Blk.Is wr g (cB 752 K) 31) ∧ Hid (Blk.Is wr (g + 1) (cB 16 (rbk K b (14 - r))) 23) ∧ Hid (Blk.Is wr (g + 1 + 1) (cB 16 z16) 23) ∧ Hid (Below g w wr)) (fun v5 _ _ _ _ _ _ _ _ _ _ _ _ _ _ _ _ _ _ _ _ _ _ _ _ _ _ _ _ _ _ _ _ _ _ _ _ _ _ _ _ _ _ _ => (intOf v5).toNat)
  case atStart => exact ⟨14, by omega, rfl, HK0, HB0, HR0, HW0⟩
  case round =>
    clear HK0 HB0 HR0 HW0
    obtain ⟨r, hr, rfl, HKwo, HBwo, HRwo, HWwo⟩ := hrel
    obtain ⟨wo, rfl⟩ : ∃ wo, wo = wr := ⟨_, rfl⟩
    by_cases hlt : 1 ≤ r
    · have HST := Lib.hid (rbk_pred K b r hlt hr)
      generalize rbk K b (14 - r) = st0 at *
      have HLE := Lib.hid hlt
      have HLE2 := Lib.hid hr
      have hlk := Blk.load_row HKwo.out (P := Try.prog) (t := 31) Try.underlying31 rfl (by rw [cB_size]; kernel_rfl)
      have hlb := Blk.load_row HBwo.out (P := Try.prog) (t := 23) Try.underlying23 rfl (by rw [cB_size]; kernel_rfl)
      go_wp2_with fail
      clear hlk hlb
      refine (added_calls K st0 r (by have := HLE2.out; omega) wo).mono ?_
      rintro e w1 ⟨rfl, hB⟩
      have HKw1 := Lib.hid (HKwo.out.below hB HKwo.out.lt)
      have HBw1 := Lib.hid (HBwo.out.below hB HBwo.out.lt)
      have HRw1 := Lib.hid (HRwo.out.below hB HRwo.out.lt)
      have HWw1 := Lib.hid (HWwo.out.trans (hB.mono (by have := HKwo.out.lt; omega)))
      clear hB HKwo HBwo HRwo HWwo
      have hsb := Blk.store_row (P := Try.prog) (t := 23) (cB 16 (addS K r st0)) HBw1.out (by rw [cB_size]; kernel_rfl) (by rw [cB_size, cB_size]) (cB_one _ _)
      have hkp : Keeps (g + 1) w1 (w1.setRow (g + 1) (cB 16 (addS K r st0))) := ⟨Blk.below_setRow (Below.refl _ _) (Nat.le_refl _) _, fun k _ hk => setRow_other w1 (g + 1) k _ hk⟩
      have HKw2 := Lib.hid (hkp.is HKw1.out (by omega))
      have HRw2 := Lib.hid (hkp.is HRw1.out (by omega))
      have HBw2 := Lib.hid (HBw1.out.setRow (cB 16 (addS K r st0)))
      have HWw2 := Lib.hid (HWw1.out.trans (hkp.below.mono (by omega)))
      clear hkp HKw1 HRw1 HBw1 HWw1
      generalize hA : addS K r st0 = A1 at *
      by_cases h14 : r < 14
      · have hb' := Blk.load_row HBw2.out (P := Try.prog) (t := 23) Try.underlying23 rfl (by rw [cB_size]; kernel_rfl)
        go_wp2_with fail
        clear hb' hsb
        generalize w1.setRow (g + 1) (cB 16 A1) = w2 at *
        refine (mixed_bwd A1 w2).mono ?_
        rintro e w3 ⟨rfl, hB⟩
        have HKw3 := Lib.hid (HKw2.out.below hB HKw2.out.lt)
        have HBw3 := Lib.hid (HBw2.out.below hB HBw2.out.lt)
        have HRw3 := Lib.hid (HRw2.out.below hB HRw2.out.lt)
        have HWw3 := Lib.hid (HWw2.out.trans (hB.mono (by have := HKw2.out.lt; omega)))
        clear hB HKw2 HBw2 HRw2 HWw2
        have hsb := Blk.store_row (P := Try.prog) (t := 23) (cB 16 (mxS fback A1)) HBw3.out (by rw [cB_size]; kernel_rfl) (by rw [cB_size, cB_size]) (cB_one _ _)
        have hkp : Keeps (g + 1) w3 (w3.setRow (g + 1) (cB 16 (mxS fback A1))) := ⟨Blk.below_setRow (Below.refl _ _) (Nat.le_refl _) _, fun k _ hk => setRow_other w3 (g + 1) k _ hk⟩
        have HKw4 := Lib.hid (hkp.is HKw3.out (by omega))
        have HRw4 := Lib.hid (hkp.is HRw3.out (by omega))
        have HBw4 := Lib.hid (HBw3.out.setRow (cB 16 (mxS fback A1)))
        have HWw4 := Lib.hid (HWw3.out.trans (hkp.below.mono (by omega)))
        clear hkp HKw3 HRw3 HBw3 HWw3
        have HM : Hid (runround K r st0 = unshiftS (backS K (mxS fback A1))) := by
          show runround K r st0 = _
          unfold runround
          rw [if_pos h14, hA]
        clear hA
        generalize mxS fback A1 = st at *
        have HGT : Hid (g + 1 + 1 < (w3.setRow (g + 1) (cB 16 st)).heap.size) := HRw4.out.lt
        have HTt := Lib.hid (Blk.Is.new (w3.setRow (g + 1) (cB 16 st)) (cB 16 z16) 23)
        have eS : (w3.setRow (g + 1) (cB 16 st)).heap.size = w3.heap.size := by simp [World.setRow]
        rw [eS] at HTt
        have HKt := Lib.hid (HKw4.out.alloc (.cells (cB 16 z16) 23))
        have HBt := Lib.hid (HBw4.out.alloc (.cells (cB 16 z16) 23))
        have HRt := Lib.hid (HRw4.out.alloc (.cells (cB 16 z16) 23))
        have HWt := Lib.hid (HWw4.out.alloc (by have := HGT.out; omega) (.cells (cB 16 z16) 23))
        clear HKw4 HBw4 HRw4 HWw4
        go_wp2_with fail
        rw [lit16]
        clear hsb
        rw [eS] at HGT
        clear eS
        generalize w3.setRow (g + 1) (cB 16 st) = w4 at *
        generalize w3.heap.size = gt at *
        clear hlt hr h14
        generalize decide ((1 : Int) ≤ (r : Int)) = dr at *
        generalize decide ((r : Int) < 14) = d14 at *
        generalize w4.alloc (.cells (cB 16 z16) 23) = wt at *
        go_loopw [7, 8, 22, 23, 24, 25, 26, 27, 28, 29, 30, 31, 32, 33, 34, 35, 36, 37, 38, 39, 40, 41, 42, 43, 44, 45, 46] (fun v7 v8 v22 v23 v24 v25 v26 v27 v28 v29 v30 v31 v32 v33 v34 v35 v36 v37 v38 v39 v40 v41 v42 v43 v44 v45 v46 wl => ∃ (c : Nat), c ≤ 4 ∧ v7 = .int .i64 (c : Int) ∧ Hid (Blk.Is wl g (cB 752 K) 31) ∧ Hid (Blk.Is wl (g + 1) (cB 16 st) 23) ∧ Hid (Blk.Is wl (g + 1 + 1) (cB 16 z16) 23) ∧ Hid (Blk.Is wl gt (cB 16 (upto sgi (unshiftS (backS K st)) z16 (4 * c))) 23) ∧ Hid (Below g w wl)) (fun v7 _ _ _ _ _ _ _ _ _ _ _ _ _ _ _ _ _ _ _ _ _ _ _ _ _ _ _ => 4 - (intOf v7).toNat)
        case atStart => exact ⟨0, by omega, rfl, HKt, HBt, HRt, by rw [← cB_congr (fun q _ => upto_zero sgi (unshiftS (backS K st)) z16 q)]; exact HTt, HWt⟩
        case round =>
          clear HKt HBt HRt HTt HWt
          obtain ⟨c, hc, rfl, HKt, HBt, HRt, HTt, HWt⟩ := hrel
          obtain ⟨wo2, rfl⟩ : ∃ wo2, wo2 = wr := ⟨_, rfl⟩
          by_cases hlc : c < 4
          · go_wp2_with fail
            generalize decide ((c : Int) < 4) = dc at *
            have HTu : Hid (Blk.Is wo2 gt (cB 16 (upto sgi (unshiftS (backS K st)) z16 (4 * c + 0))) 23) := HTt
            clear HTt
            go_loopw [8, 26, 27, 28, 29, 30, 31, 32, 33, 34, 35, 36, 37, 38, 39, 40, 41, 42, 43, 44, 45, 46] (fun v8 v26 v27 v28 v29 v30 v31 v32 v33 v34 v35 v36 v37 v38 v39 v40 v41 v42 v43 v44 v45 v46 wl => ∃ (q : Nat), q ≤ 4 ∧ v8 = .int .i64 (q : Int) ∧ Hid (Blk.Is wl g (cB 752 K) 31) ∧ Hid (Blk.Is wl (g + 1) (cB 16 st) 23) ∧ Hid (Blk.Is wl (g + 1 + 1) (cB 16 z16) 23) ∧ Hid (Blk.Is wl gt (cB 16 (upto sgi (unshiftS (backS K st)) z16 (4 * c + q))) 23) ∧ Hid (Below g w wl)) (fun v8 _ _ _ _ _ _ _ _ _ _ _ _ _ _ _ _ _ _ _ _ _ _ => 4 - (intOf v8).toNat)
            case atStart => exact ⟨0, by omega, rfl, HKt, HBt, HRt, HTu, HWt⟩
            case round =>
              clear HKt HBt HRt HTu HWt
              obtain ⟨q, hq, rfl, HKt, HBt, HRt, HTt, HWt⟩ := hrel
              by_cases hlq : q < 4
              · obtain ⟨m, hm⟩ : ∃ m : Nat, m = 4 * c := ⟨_, rfl⟩
                obtain ⟨p, hp⟩ : ∃ p : Nat, p = m + q := ⟨_, rfl⟩
                obtain ⟨y, hy⟩ : ∃ y : Nat, y = c + q := ⟨_, rfl⟩
                obtain ⟨z, hz⟩ : ∃ z : Nat, z = y % 4 := ⟨_, rfl⟩
                obtain ⟨x, hx⟩ : ∃ x : Nat, x = 4 * z := ⟨_, rfl⟩
                obtain ⟨o, ho⟩ : ∃ o : Nat, o = x + q := ⟨_, rfl⟩
                have wA : IntKind.i64.wrap (4 * (c : Int)) = (m : Int) := by rw [IntWalk.i64_in _ (by omega)]; omega
                have wB : IntKind.i64.wrap ((m : Int) + (q : Int)) = (p : Int) := by rw [IntWalk.i64_in _ (by omega)]; omega
                have wC : IntKind.i64.wrap ((c : Int) + (q : Int)) = (y : Int) := by rw [IntWalk.i64_in _ (by omega)]; omega
                have wE : Int.tmod (y : Int) 4 = (z : Int) := by rw [Int.tmod_eq_emod_of_nonneg (by omega)]; omega
                have wF : IntKind.i64.wrap (4 * (z : Int)) = (x : Int) := by rw [IntWalk.i64_in _ (by omega)]; omega
                have wG : IntKind.i64.wrap ((x : Int) + (q : Int)) = (o : Int) := by rw [IntWalk.i64_in _ (by omega)]; omega
                have bp : (p : Int) < 16 := by omega
                have bo : (o : Int) < 16 := by omega
                have hpo : (p + 4 * (p % 4)) % 16 = o := by omega
                have cs : wr.cell? ⟨g + 1, p, none⟩ = some (.int .u8 (ofB (st p))) := by rw [HBt.out.cell, cB_get 16 _ _ (by omega)]
                have ck : wr.cell? ⟨g, 496 + (ofB (st p)).toNat, none⟩ = some (.int .u8 (ofB (K (496 + (st p).toNat)))) := by
                  have e : (ofB (st p)).toNat = (st p).toNat := by simp [ofB]
                  rw [HKt.out.cell, e, cB_get 752 _ _ (by have := (st p).isLt; omega)]
                have ct : wr.cell? ⟨gt, o, none⟩ = some (.int .u8 (ofB (upto sgi (unshiftS (backS K st)) z16 (4 * c + q) o))) := by rw [HTt.out.cell, cB_get 16 _ _ (by omega)]
                have ft := HTt.out.free o
                have lo := (ofB_range (st p)).1
                have hi' := (ofB_range (st p)).2
                have hv : K (496 + (st p).toNat) = (unshiftS (backS K st)) o := by
                  show _ = K (496 + (st ((o + 12 * (o % 4)) % 16)).toNat)
                  have h := sgi_sg p (by omega)
                  unfold sgi sg at h
                  rw [hpo] at h
                  rw [h]
                have hup : ∀ j, j < 16 → updB (upto sgi (unshiftS (backS K st)) z16 p) o ((unshiftS (backS K st)) o) j = upto sgi (unshiftS (backS K st)) z16 (p + 1) j := fun j hj => upto_next sgi (unshiftS (backS K st)) z16 p o (by rw [← hpo]; exact sgi_sg p (by omega)) (fun j hj2 h => by rw [← hpo]; exact un_uniq p (by omega) j hj2 h) j hj
                have HTN : Hid (∀ W, Blk.Is W gt (cB 16 (upto sgi (unshiftS (backS K st)) z16 (4 * c + q))) 23 → Blk.Is (W.setCell ⟨gt, o, none⟩ (.int .u8 (ofB (K (496 + (st p).toNat))))) gt (cB 16 (upto sgi (unshiftS (backS K st)) z16 (4 * c + (q + 1)))) 23) := fun W h => by
                  have h2 := h.set o (.int .u8 (ofB (K (496 + (st p).toNat))))
                  have e0 : 4 * c + q = p := by omega
                  have e1 : 4 * c + (q + 1) = p + 1 := by omega
                  rw [e1]
                  rw [cB_set, hv, e0, cB_congr hup] at h2
                  rw [hv]
                  exact h2
                have HQ := Lib.hid hlq
                clear hm hp hy hz hx ho hpo hv hup
                generalize ofB (upto sgi (unshiftS (backS K st)) z16 (4 * c + q) o) = ov at *
                generalize K (496 + (st p).toNat) = kv at *
                generalize ofB (st p) = sv at *
                go_wp2_with fail
                clear wA wB wC wE wF wG bp bo cs ck ct ft lo hi'
                go_roundw
                case rel => exact ⟨q + 1, by have := HQ.out; omega, by go_num, HKt.out.other (by have := HGT.out; simp; omega) _, HBt.out.other (by have := HGT.out; simp; omega) _, HRt.out.other (by have := HGT.out; simp; omega) _, HTN.out _ HTt.out, HWt.out.setCell (by have := HGT.out; show g ≤ gt; omega) _⟩
                case measure => simp [intOf]; omega
              · obtain rfl : q = 4 := by omega
                go_wp2_with fail
                go_roundw
                case rel => exact ⟨c + 1, by omega, by go_num, HKt, HBt, HRt, HTt, HWt⟩
                case measure => simp [intOf]; omega
          · obtain rfl : c = 4 := by omega
            have HTe : Hid (Blk.Is wo2 gt (cB 16 (unshiftS (backS K st))) 23) := by
              rw [← cB_congr (fun q hq => upto_end sgi (unshiftS (backS K st)) z16 16 q (sgi_lt q))]
              exact HTt.out
            have HKwo2 := HKt
            have HBwo2 := HBt
            have HRwo2 := HRt
            have HWwo2 := HWt
            clear HTt HBt HRt HWt HKt
            rw [HM.out] at HST
            generalize (unshiftS (backS K st)) = F at *
            have hlt6 := Blk.load_row HTe.out (P := Try.prog) (t := 23) Try.underlying23 rfl (by rw [cB_size]; kernel_rfl)
            have hsb := Blk.store_row (P := Try.prog) (t := 23) (cB 16 (F)) HBwo2.out (by rw [cB_size]; kernel_rfl) (by rw [cB_size, cB_size]) (cB_one _ _)
            have hkp : Keeps (g + 1) wo2 (wo2.setRow (g + 1) (cB 16 (F))) := ⟨Blk.below_setRow (Below.refl _ _) (Nat.le_refl _) _, fun k _ hk => setRow_other wo2 (g + 1) k _ hk⟩
            have HKw7 := Lib.hid (hkp.is HKwo2.out (by omega))
            have HRw7 := Lib.hid (hkp.is HRwo2.out (by omega))
            have HBw7 := Lib.hid (HBwo2.out.setRow (cB 16 (F)))
            have HWw7 := Lib.hid (HWwo2.out.trans (hkp.below.mono (by omega)))
            clear hkp HKwo2 HRwo2 HBwo2 HWwo2
            have hle := HLE.out
            have hle2 := HLE2.out
            go_wp2_with fail
            go_roundw
            case rel =>
              refine ⟨r - 1, by have := HLE2.out; omega, by have := HLE.out; go_num, HKw7, ?_, HRw7, HWw7⟩
              rw [← HST.out]
              exact HBw7
            case measure => have := HLE.out; simp [intOf]; omega
      · have HM : Hid (runround K r st0 = unshiftS (backS K A1)) := by
          show runround K r st0 = _
          unfold runround
          rw [if_neg h14, hA]
        clear hA
        generalize A1 = st at *
        have HGT : Hid (g + 1 + 1 < (w1.setRow (g + 1) (cB 16 st)).heap.size) := HRw2.out.lt
        have HTt := Lib.hid (Blk.Is.new (w1.setRow (g + 1) (cB 16 st)) (cB 16 z16) 23)
        have eS : (w1.setRow (g + 1) (cB 16 st)).heap.size = w1.heap.size := by simp [World.setRow]
        rw [eS] at HTt
        have HKt := Lib.hid (HKw2.out.alloc (.cells (cB 16 z16) 23))
        have HBt := Lib.hid (HBw2.out.alloc (.cells (cB 16 z16) 23))
        have HRt := Lib.hid (HRw2.out.alloc (.cells (cB 16 z16) 23))
        have HWt := Lib.hid (HWw2.out.alloc (by have := HGT.out; omega) (.cells (cB 16 z16) 23))
        clear HKw2 HBw2 HRw2 HWw2
        go_wp2_with fail
        rw [lit16]
        clear hsb
        rw [eS] at HGT
        clear eS
        generalize w1.setRow (g + 1) (cB 16 st) = w4 at *
        generalize w1.heap.size = gt at *
        clear hlt hr h14
        generalize decide ((1 : Int) ≤ (r : Int)) = dr at *
        generalize decide ((r : Int) < 14) = d14 at *
        generalize w4.alloc (.cells (cB 16 z16) 23) = wt at *
        go_loopw [7, 8, 22, 23, 24, 25, 26, 27, 28, 29, 30, 31, 32, 33, 34, 35, 36, 37, 38, 39, 40, 41, 42, 43, 44, 45, 46] (fun v7 v8 v22 v23 v24 v25 v26 v27 v28 v29 v30 v31 v32 v33 v34 v35 v36 v37 v38 v39 v40 v41 v42 v43 v44 v45 v46 wl => ∃ (c : Nat), c ≤ 4 ∧ v7 = .int .i64 (c : Int) ∧ Hid (Blk.Is wl g (cB 752 K) 31) ∧ Hid (Blk.Is wl (g + 1) (cB 16 st) 23) ∧ Hid (Blk.Is wl (g + 1 + 1) (cB 16 z16) 23) ∧ Hid (Blk.Is wl gt (cB 16 (upto sgi (unshiftS (backS K st)) z16 (4 * c))) 23) ∧ Hid (Below g w wl)) (fun v7 _ _ _ _ _ _ _ _ _ _ _ _ _ _ _ _ _ _ _ _ _ _ _ _ _ _ _ => 4 - (intOf v7).toNat)
        case atStart => exact ⟨0, by omega, rfl, HKt, HBt, HRt, by rw [← cB_congr (fun q _ => upto_zero sgi (unshiftS (backS K st)) z16 q)]; exact HTt, HWt⟩
        case round =>
          clear HKt HBt HRt HTt HWt
          obtain ⟨c, hc, rfl, HKt, HBt, HRt, HTt, HWt⟩ := hrel
          obtain ⟨wo2, rfl⟩ : ∃ wo2, wo2 = wr := ⟨_, rfl⟩
          by_cases hlc : c < 4
          · go_wp2_with fail
            generalize decide ((c : Int) < 4) = dc at *
            have HTu : Hid (Blk.Is wo2 gt (cB 16 (upto sgi (unshiftS (backS K st)) z16 (4 * c + 0))) 23) := HTt
            clear HTt
            go_loopw [8, 26, 27, 28, 29, 30, 31, 32, 33, 34, 35, 36, 37, 38, 39, 40, 41, 42, 43, 44, 45, 46] (fun v8 v26 v27 v28 v29 v30 v31 v32 v33 v34 v35 v36 v37 v38 v39 v40 v41 v42 v43 v44 v45 v46 wl => ∃ (q : Nat), q ≤ 4 ∧ v8 = .int .i64 (q : Int) ∧ Hid (Blk.Is wl g (cB 752 K) 31) ∧ Hid (Blk.Is wl (g + 1) (cB 16 st) 23) ∧ Hid (Blk.Is wl (g + 1 + 1) (cB 16 z16) 23) ∧ Hid (Blk.Is wl gt (cB 16 (upto sgi (unshiftS (backS K st)) z16 (4 * c + q))) 23) ∧ Hid (Below g w wl)) (fun v8 _ _ _ _ _ _ _ _ _ _ _ _ _ _ _ _ _ _ _ _ _ _ => 4 - (intOf v8).toNat)
            case atStart => exact ⟨0, by omega, rfl, HKt, HBt, HRt, HTu, HWt⟩
            case round =>
              clear HKt HBt HRt HTu HWt
              obtain ⟨q, hq, rfl, HKt, HBt, HRt, HTt, HWt⟩ := hrel
              by_cases hlq : q < 4
              · obtain ⟨m, hm⟩ : ∃ m : Nat, m = 4 * c := ⟨_, rfl⟩
                obtain ⟨p, hp⟩ : ∃ p : Nat, p = m + q := ⟨_, rfl⟩
                obtain ⟨y, hy⟩ : ∃ y : Nat, y = c + q := ⟨_, rfl⟩
                obtain ⟨z, hz⟩ : ∃ z : Nat, z = y % 4 := ⟨_, rfl⟩
                obtain ⟨x, hx⟩ : ∃ x : Nat, x = 4 * z := ⟨_, rfl⟩
                obtain ⟨o, ho⟩ : ∃ o : Nat, o = x + q := ⟨_, rfl⟩
                have wA : IntKind.i64.wrap (4 * (c : Int)) = (m : Int) := by rw [IntWalk.i64_in _ (by omega)]; omega
                have wB : IntKind.i64.wrap ((m : Int) + (q : Int)) = (p : Int) := by rw [IntWalk.i64_in _ (by omega)]; omega
                have wC : IntKind.i64.wrap ((c : Int) + (q : Int)) = (y : Int) := by rw [IntWalk.i64_in _ (by omega)]; omega
                have wE : Int.tmod (y : Int) 4 = (z : Int) := by rw [Int.tmod_eq_emod_of_nonneg (by omega)]; omega
                have wF : IntKind.i64.wrap (4 * (z : Int)) = (x : Int) := by rw [IntWalk.i64_in _ (by omega)]; omega
                have wG : IntKind.i64.wrap ((x : Int) + (q : Int)) = (o : Int) := by rw [IntWalk.i64_in _ (by omega)]; omega
                have bp : (p : Int) < 16 := by omega
                have bo : (o : Int) < 16 := by omega
                have hpo : (p + 4 * (p % 4)) % 16 = o := by omega
                have cs : wr.cell? ⟨g + 1, p, none⟩ = some (.int .u8 (ofB (st p))) := by rw [HBt.out.cell, cB_get 16 _ _ (by omega)]
                have ck : wr.cell? ⟨g, 496 + (ofB (st p)).toNat, none⟩ = some (.int .u8 (ofB (K (496 + (st p).toNat)))) := by
                  have e : (ofB (st p)).toNat = (st p).toNat := by simp [ofB]
                  rw [HKt.out.cell, e, cB_get 752 _ _ (by have := (st p).isLt; omega)]
                have ct : wr.cell? ⟨gt, o, none⟩ = some (.int .u8 (ofB (upto sgi (unshiftS (backS K st)) z16 (4 * c + q) o))) := by rw [HTt.out.cell, cB_get 16 _ _ (by omega)]
                have ft := HTt.out.free o
                have lo := (ofB_range (st p)).1
                have hi' := (ofB_range (st p)).2
                have hv : K (496 + (st p).toNat) = (unshiftS (backS K st)) o := by
                  show _ = K (496 + (st ((o + 12 * (o % 4)) % 16)).toNat)
                  have h := sgi_sg p (by omega)
                  unfold sgi sg at h
                  rw [hpo] at h
                  rw [h]
                have hup : ∀ j, j < 16 → updB (upto sgi (unshiftS (backS K st)) z16 p) o ((unshiftS (backS K st)) o) j = upto sgi (unshiftS (backS K st)) z16 (p + 1) j := fun j hj => upto_next sgi (unshiftS (backS K st)) z16 p o (by rw [← hpo]; exact sgi_sg p (by omega)) (fun j hj2 h => by rw [← hpo]; exact un_uniq p (by omega) j hj2 h) j hj
                have HTN : Hid (∀ W, Blk.Is W gt (cB 16 (upto sgi (unshiftS (backS K st)) z16 (4 * c + q))) 23 → Blk.Is (W.setCell ⟨gt, o, none⟩ (.int .u8 (ofB (K (496 + (st p).toNat))))) gt (cB 16 (upto sgi (unshiftS (backS K st)) z16 (4 * c + (q + 1)))) 23) := fun W h => by
                  have h2 := h.set o (.int .u8 (ofB (K (496 + (st p).toNat))))
                  have e0 : 4 * c + q = p := by omega
                  have e1 : 4 * c + (q + 1) = p + 1 := by omega
                  rw [e1]
                  rw [cB_set, hv, e0, cB_congr hup] at h2
                  rw [hv]
                  exact h2
                have HQ := Lib.hid hlq
                clear hm hp hy hz hx ho hpo hv hup
                generalize ofB (upto sgi (unshiftS (backS K st)) z16 (4 * c + q) o) = ov at *
                generalize K (496 + (st p).toNat) = kv at *
                generalize ofB (st p) = sv at *
                go_wp2_with fail
                clear wA wB wC wE wF wG bp bo cs ck ct ft lo hi'
                go_roundw
                case rel => exact ⟨q + 1, by have := HQ.out; omega, by go_num, HKt.out.other (by have := HGT.out; simp; omega) _, HBt.out.other (by have := HGT.out; simp; omega) _, HRt.out.other (by have := HGT.out; simp; omega) _, HTN.out _ HTt.out, HWt.out.setCell (by have := HGT.out; show g ≤ gt; omega) _⟩
                case measure => simp [intOf]; omega
              · obtain rfl : q = 4 := by omega
                go_wp2_with fail
                go_roundw
                case rel => exact ⟨c + 1, by omega, by go_num, HKt, HBt, HRt, HTt, HWt⟩
                case measure => simp [intOf]; omega
          · obtain rfl : c = 4 := by omega
            have HTe : Hid (Blk.Is wo2 gt (cB 16 (unshiftS (backS K st))) 23) := by
              rw [← cB_congr (fun q hq => upto_end sgi (unshiftS (backS K st)) z16 16 q (sgi_lt q))]
              exact HTt.out
            have HKwo2 := HKt
            have HBwo2 := HBt
            have HRwo2 := HRt
            have HWwo2 := HWt
            clear HTt HBt HRt HWt HKt
            rw [HM.out] at HST
            generalize (unshiftS (backS K st)) = F at *
            have hlt6 := Blk.load_row HTe.out (P := Try.prog) (t := 23) Try.underlying23 rfl (by rw [cB_size]; kernel_rfl)
            have hsb := Blk.store_row (P := Try.prog) (t := 23) (cB 16 (F)) HBwo2.out (by rw [cB_size]; kernel_rfl) (by rw [cB_size, cB_size]) (cB_one _ _)
            have hkp : Keeps (g + 1) wo2 (wo2.setRow (g + 1) (cB 16 (F))) := ⟨Blk.below_setRow (Below.refl _ _) (Nat.le_refl _) _, fun k _ hk => setRow_other wo2 (g + 1) k _ hk⟩
            have HKw7 := Lib.hid (hkp.is HKwo2.out (by omega))
            have HRw7 := Lib.hid (hkp.is HRwo2.out (by omega))
            have HBw7 := Lib.hid (HBwo2.out.setRow (cB 16 (F)))
            have HWw7 := Lib.hid (HWwo2.out.trans (hkp.below.mono (by omega)))
            clear hkp HKwo2 HRwo2 HBwo2 HWwo2
            have hle := HLE.out
            have hle2 := HLE2.out
            go_wp2_with fail
            go_roundw
            case rel =>
              refine ⟨r - 1, by have := HLE2.out; omega, by have := HLE.out; go_num, HKw7, ?_, HRw7, HWw7⟩
              rw [← HST.out]
              exact HBw7
            case measure => have := HLE.out; simp [intOf]; omega
    · obtain rfl : r = 0 := by omega
      have HBE : Hid (Blk.Is wo (g + 1) (cB 16 (rbk K b 14)) 23) := HBwo
      clear HBwo
      have hlk := Blk.load_row HKwo.out (P := Try.prog) (t := 31) Try.underlying31 rfl (by rw [cB_size]; kernel_rfl)
      have hlb := Blk.load_row HBE.out (P := Try.prog) (t := 23) Try.underlying23 rfl (by rw [cB_size]; kernel_rfl)
      obtain ⟨st, hst⟩ : ∃ st, st = rbk K b 14 := ⟨_, rfl⟩
      rw [← hst] at HBE hlb
      have HSTE := Lib.hid hst
      clear hst
      go_wp2_with fail
      refine (added_calls K st 0 (by omega) wo).mono ?_
      rintro e w1 ⟨rfl, hB⟩
      have HR1 := Lib.hid (HRwo.out.below hB HRwo.out.lt)
      have HW1 := Lib.hid (HWwo.out.trans (hB.mono (by have := HKwo.out.lt; omega)))
      clear hlk hlb hB
      have hsr := Blk.store_row (P := Try.prog) (t := 23) (cB 16 (addS K 0 st)) HR1.out (by rw [cB_size]; kernel_rfl) (by rw [cB_size, cB_size]) (cB_one _ _)
      have HR7 := Lib.hid (HR1.out.setRow (cB 16 (addS K 0 st)))
      have HW7 := Lib.hid (Blk.below_setRow HW1.out (show g ≤ g + 1 + 1 by omega) (cB 16 (addS K 0 st)))
      go_wp2_with fail
      refine bodyPost_ret (results_cell_row rfl _ _ (g + 1 + 1) 23 (cB 16 (addS K 0 st)) (0, 0) _ rfl HR7.out Try.underlying23 rfl (by rw [cB_size]; kernel_rfl)) rfl ?_
      exact ⟨by rw [HSTE.out], by rw [HG.out]; exact HW7.out⟩
end Go.Proofs.Ytfbhbkcjnbpnlaa.Aes
