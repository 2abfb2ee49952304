/- What is said here: what the document's added, mixed and Block make of a block. -/
import Derived.Test.YtbebmbcjddibaaaGd
namespace Go.Proofs.Ytbebmbcjddibaaa.Aes
set_option linter.unusedVariables false
set_option linter.unusedSimpArgs false
open Go.RowKit Go.Proofs.YtbebmbcjddibaaaW.PrintWords Go.Proofs.YtbebmbcjddibaaaW.PrintLast Go.Proofs.YtbebmbcjddibaaaW.PrintMore
open Gf Gfi Poly AesF
attribute [local go_sem ↓] ld4 st4 ld31 st31 ld23 st23
def z16 : Nat → B := fun _ => 0#8
theorem lit16 : (#[.int .u8 0, .int .u8 0, .int .u8 0, .int .u8 0, .int .u8 0, .int .u8 0, .int .u8 0, .int .u8 0, .int .u8 0, .int .u8 0, .int .u8 0, .int .u8 0, .int .u8 0, .int .u8 0, .int .u8 0, .int .u8 0] : Array Value) = cB 16 z16 := rfl
set_option maxRecDepth 100000 in
set_option maxHeartbeats 2000000 in
theorem added_calls (K b : Nat → B) (r : Nat) (h : r ≤ 14) (w : World) : Calls Try.prog 30 #[.agg (cB 752 K), .agg (cB 16 b), .int .i64 (r : Int)] w fun e w' => e = .returned (.agg (cB 16 (addS K r b))) ∧ Below w.heap.size w w' := by
  have e1 : (w.alloc (.cells (cB 752 K) 46)).heap.size = w.heap.size + 1 := by simp
  have e2 : ((w.alloc (.cells (cB 752 K) 46)).alloc (.cells (cB 16 b) 37)).heap.size = w.heap.size + 1 + 1 := by simp
  have HK0 := Lib.hid (((Blk.Is.new w (cB 752 K) 46).alloc (.cells (cB 16 b) 37)).alloc (.cells (cB 16 z16) 37))
  have HB0 := Lib.hid ((Blk.Is.new (w.alloc (.cells (cB 752 K) 46)) (cB 16 b) 37).alloc (.cells (cB 16 z16) 37))
  have HR0 := Lib.hid (Blk.Is.new ((w.alloc (.cells (cB 752 K) 46)).alloc (.cells (cB 16 b) 37)) (cB 16 z16) 37)
  rw [e1] at HB0
  rw [e2] at HR0
  have HW0 := Lib.hid ((((Below.refl _ w).alloc (Nat.le_refl _) (.cells (cB 752 K) 46)).alloc (by omega) (.cells (cB 16 b) 37)).alloc (by omega) (.cells (cB 16 z16) 37))
  have H14 := Lib.hid h
  clear e1 e2 h
  go_enter Try.func30, Try.ntmps30
  go_wp2_with fail
  rw [lit16]
  generalize ((w.alloc (.cells (cB 752 K) 46)).alloc (.cells (cB 16 b) 37)).alloc (.cells (cB 16 z16) 37) = w0 at *
  generalize hg : w.heap.size = g at *
  have HG := Lib.hid hg
  clear hg
  go_loopw [7, 8, 9, 10, 11, 12, 13, 14, 15, 16, 17, 18, 19, 20, 21, 22, 23, 24] (fun v7 v8 v9 v10 v11 v12 v13 v14 v15 v16 v17 v18 v19 v20 v21 v22 v23 v24 wr => ∃ (i : Nat), i ≤ 16 ∧ v7 = .int .i64 (i : Int) ∧ Hid (Blk.Is wr g (cB 752 K) 46) ∧ Hid (Blk.Is wr (g + 1) (cB 16 (upto id (addS K r b) b i)) 37) ∧ Hid (Blk.Is wr (g + 1 + 1) (cB 16 z16) 37) ∧ Hid (Below g w wr)) (fun v7 _ _ _ _ _ _ _ _ _ _ _ _ _ _ _ _ _ _ => 16 - (intOf v7).toNat)
  case atStart => exact ⟨0, by omega, rfl, HK0, by rw [← cB_congr (fun q _ => upto_zero id (addS K r b) b q)]; exact HB0, HR0, HW0⟩
  case round =>
    clear HK0 HB0 HR0 HW0
    obtain ⟨i, hi, rfl, HK, HB, HR, HW⟩ := hrel
    by_cases hlt : i < 16
    · obtain ⟨m, hm⟩ : ∃ m : Nat, m = 16 * r := ⟨_, rfl⟩
      obtain ⟨pp, hpp⟩ : ∃ pp : Nat, pp = m + i := ⟨_, rfl⟩
      have h14 := H14.out
      have wA : IntKind.i64.wrap (16 * (r : Int)) = (m : Int) := by rw [IntWalk.i64_in _ (by omega)]; omega
      have wB : IntKind.i64.wrap ((m : Int) + (i : Int)) = (pp : Int) := by rw [IntWalk.i64_in _ (by omega)]; omega
      have bP : (pp : Int) < 240 := by omega
      have cb : wr.cell? ⟨g + 1, i, none⟩ = some (.int .u8 (ofB (b i))) := by rw [HB.out.cell, cB_get 16 _ i hlt, upto_self id _ _ i i rfl]
      have ck : wr.cell? ⟨g, pp, none⟩ = some (.int .u8 (ofB (K pp))) := by rw [HK.out.cell, cB_get 752 _ _ (by omega)]
      have fb := HB.out.free i
      have hv : b i ^^^ K pp = addS K r b i := by rw [hpp, hm]; rfl
      have hxor : Go.bits .xor .u8 (ofB (b i)) (ofB (K pp)) = ofB (addS K r b i) := by rw [bits_xor, hv]
      have HBN : Hid (∀ W, Blk.Is W (g + 1) (cB 16 (upto id (addS K r b) b i)) 37 → Blk.Is (W.setCell ⟨g + 1, i, none⟩ (.int .u8 (ofB (addS K r b i)))) (g + 1) (cB 16 (upto id (addS K r b) b (i + 1))) 37) := fun W h => by
        have h2 := h.set i (.int .u8 (ofB (addS K r b i)))
        rw [cB_set, cB_congr (fun q hq => upto_next id (addS K r b) b i i rfl (fun q _ h => h) q hq)] at h2
        exact h2
      have HI := Lib.hid hlt
      clear hm hpp hv h14
      generalize addS K r b i = av at *
      generalize b i = bv at *
      generalize K pp = kv at *
      go_wp2_with fail
      go_region
      clear wA wB bP cb ck fb hxor
      go_wp2_with fail
      go_roundw
      case rel => exact ⟨i + 1, by have := HI.out; omega, by go_num, HK.out.drew.other (by simp) _, HBN.out _ HB.out.drew, HR.out.drew.other (by simp) _, HW.out.drew.setCell (by show g ≤ g + 1; omega) _⟩
      case measure => simp [intOf]; omega
    · obtain rfl : i = 16 := by omega
      have HBE : Hid (Blk.Is wr (g + 1) (cB 16 (addS K r b)) 37) := by
        rw [← cB_congr (fun q hq => upto_end id (addS K r b) b 16 q hq)]
        exact HB.out
      clear HB
      have hlk := Blk.load_row HBE.out (P := Try.prog) (t := 37) Try.underlying37 rfl (by rw [cB_size]; kernel_rfl)
      have hsr := Blk.store_row (P := Try.prog) (t := 37) (cB 16 (addS K r b)) HR.out (by rw [cB_size]; kernel_rfl) (by rw [cB_size, cB_size]) (cB_one _ _)
      have HR7 := Lib.hid (HR.out.setRow (cB 16 (addS K r b)))
      have HW7 := Lib.hid (Blk.below_setRow HW.out (show g ≤ g + 1 + 1 by omega) (cB 16 (addS K r b)))
      go_wp2_with fail
      refine bodyPost_ret (results_cell_row rfl _ _ (g + 1 + 1) 37 (cB 16 (addS K r b)) (0, 0) _ rfl HR7.out Try.underlying37 rfl (by rw [cB_size]; kernel_rfl)) rfl ?_
      exact ⟨rfl, by rw [HG.out]; exact HW7.out⟩
/-- A column's byte, as far as it is summed up. -/
def pt (f b : Nat → B) (p : Nat) : Nat → B
  | 0 => 0#8
  | q + 1 => pt f b p q ^^^ mul (f ((q + 4 - p % 4) % 4)) (b (p / 4 * 4 + q))
def mxS (f b : Nat → B) : Nat → B := fun p => pt f b p 4
def ost (f b : Nat → B) (p q : Nat) : Nat → B := fun j => if j < p then mxS f b j else if j = p then pt f b p q else 0#8
theorem ost_zero (f b : Nat → B) : ost f b 0 0 = z16 := by
  funext j
  unfold ost
  rw [if_neg (by omega)]
  by_cases e : j = 0
  · rw [if_pos e]; rfl
  · rw [if_neg e]; rfl
theorem ost_next (f b : Nat → B) (p q : Nat) : updB (ost f b p q) p (pt f b p (q + 1)) = ost f b p (q + 1) := by
  funext j
  unfold updB ost
  by_cases e : j = p
  · subst e
    rw [if_pos rfl, if_neg (by omega), if_pos rfl]
  · rw [if_neg e, if_neg e, if_neg e]
theorem ost_step (f b : Nat → B) (p : Nat) : ost f b p 4 = ost f b (p + 1) 0 := by
  funext j
  unfold ost
  by_cases e : j < p
  · rw [if_pos e, if_pos (by omega)]
  · rw [if_neg e]
    by_cases e2 : j = p
    · subst e2
      rw [if_pos rfl, if_pos (by omega)]; rfl
    · rw [if_neg e2, if_neg (by omega)]
      by_cases e3 : j = p + 1
      · rw [if_pos e3]; rfl
      · rw [if_neg e3]
theorem ost_at (f b : Nat → B) (p q : Nat) : ost f b p q p = pt f b p q := by
  unfold ost
  rw [if_neg (by omega), if_pos rfl]
set_option maxRecDepth 100000 in
set_option maxHeartbeats 2000000 in
theorem mixed_calls (f b : Nat → B) (w : World) : Calls Try.prog 31 #[.agg (cB 16 b), .agg (cB 4 f)] w fun e w' => e = .returned (.agg (cB 16 (mxS f b))) ∧ Below w.heap.size w w' := by
  have e1 : (w.alloc (.cells (cB 16 b) 37)).heap.size = w.heap.size + 1 := by simp
  have e2 : ((w.alloc (.cells (cB 16 b) 37)).alloc (.cells (cB 4 f) 62)).heap.size = w.heap.size + 1 + 1 := by simp
  have e3 : (((w.alloc (.cells (cB 16 b) 37)).alloc (.cells (cB 4 f) 62)).alloc (.cells (cB 16 z16) 37)).heap.size = w.heap.size + 1 + 1 + 1 := by simp
  have HA0 := Lib.hid ((((Blk.Is.new w (cB 16 b) 37).alloc (.cells (cB 4 f) 62)).alloc (.cells (cB 16 z16) 37)).alloc (.cells (cB 16 z16) 37))
  have HF0 := Lib.hid (((Blk.Is.new (w.alloc (.cells (cB 16 b) 37)) (cB 4 f) 62).alloc (.cells (cB 16 z16) 37)).alloc (.cells (cB 16 z16) 37))
  have HR0 := Lib.hid ((Blk.Is.new ((w.alloc (.cells (cB 16 b) 37)).alloc (.cells (cB 4 f) 62)) (cB 16 z16) 37).alloc (.cells (cB 16 z16) 37))
  have HO0 := Lib.hid (Blk.Is.new (((w.alloc (.cells (cB 16 b) 37)).alloc (.cells (cB 4 f) 62)).alloc (.cells (cB 16 z16) 37)) (cB 16 z16) 37)
  rw [e1] at HF0
  rw [e2] at HR0
  rw [e3] at HO0
  have HW0 := Lib.hid (((((Below.refl _ w).alloc (Nat.le_refl _) (.cells (cB 16 b) 37)).alloc (by omega) (.cells (cB 4 f) 62)).alloc (by omega) (.cells (cB 16 z16) 37)).alloc (by omega) (.cells (cB 16 z16) 37))
  clear e1 e2 e3
  go_enter Try.func31, Try.ntmps31
  go_wp2_with fail
  rw [lit16]
  generalize (((w.alloc (.cells (cB 16 b) 37)).alloc (.cells (cB 4 f) 62)).alloc (.cells (cB 16 z16) 37)).alloc (.cells (cB 16 z16) 37) = w0 at *
  generalize hg : w.heap.size = g at *
  have HG := Lib.hid hg
  clear hg
  go_loopw [6, 7, 8, 9, 10, 11, 12, 13, 14, 15, 16, 17, 18, 19, 20, 21, 22, 23, 24, 25, 26, 27, 28, 29, 30, 31, 32, 33, 34, 35, 36, 37, 38, 39, 40, 41, 42, 43, 44, 45, 46] (fun v6 v7 v8 v9 v10 v11 v12 v13 v14 v15 v16 v17 v18 v19 v20 v21 v22 v23 v24 v25 v26 v27 v28 v29 v30 v31 v32 v33 v34 v35 v36 v37 v38 v39 v40 v41 v42 v43 v44 v45 v46 wr => ∃ (c : Nat), c ≤ 4 ∧ v6 = .int .i64 (c : Int) ∧ Hid (Blk.Is wr g (cB 16 b) 37) ∧ Hid (Blk.Is wr (g + 1) (cB 4 f) 62) ∧ Hid (Blk.Is wr (g + 1 + 1) (cB 16 z16) 37) ∧ Hid (Blk.Is wr (g + 1 + 1 + 1) (cB 16 (ost f b (4 * c) 0)) 37) ∧ Hid (Below g w wr)) (fun v6 _ _ _ _ _ _ _ _ _ _ _ _ _ _ _ _ _ _ _ _ _ _ _ _ _ _ _ _ _ _ _ _ _ _ _ _ _ _ _ _ _ => 4 - (intOf v6).toNat)
  case atStart => exact ⟨0, by omega, rfl, HA0, HF0, HR0, by rw [Nat.mul_zero, ost_zero]; exact HO0, HW0⟩
  case round =>
    clear HA0 HF0 HR0 HO0 HW0
    obtain ⟨c, hc, rfl, HA, HF, HR, HO, HW⟩ := hrel
    obtain ⟨wo, rfl⟩ : ∃ wo, wo = wr := ⟨_, rfl⟩
    by_cases hlt : c < 4
    · go_wp2_with fail
      generalize decide ((c : Int) < 4) = d10 at *
      have HO1 : Hid (Blk.Is wo (g + 1 + 1 + 1) (cB 16 (ost f b (4 * c + 0) 0)) 37) := HO
      clear HO
      go_loopw [7, 8, 13, 14, 15, 16, 17, 18, 19, 20, 21, 22, 23, 24, 25, 26, 27, 28, 29, 30, 31, 32, 33, 34, 35, 36, 37, 38, 39, 40, 41, 42, 43, 44, 45, 46] (fun v7 v8 v13 v14 v15 v16 v17 v18 v19 v20 v21 v22 v23 v24 v25 v26 v27 v28 v29 v30 v31 v32 v33 v34 v35 v36 v37 v38 v39 v40 v41 v42 v43 v44 v45 v46 wl => ∃ (r : Nat), r ≤ 4 ∧ v7 = .int .i64 (r : Int) ∧ Hid (Blk.Is wl g (cB 16 b) 37) ∧ Hid (Blk.Is wl (g + 1) (cB 4 f) 62) ∧ Hid (Blk.Is wl (g + 1 + 1) (cB 16 z16) 37) ∧ Hid (Blk.Is wl (g + 1 + 1 + 1) (cB 16 (ost f b (4 * c + r) 0)) 37) ∧ Hid (Below g w wl)) (fun v7 _ _ _ _ _ _ _ _ _ _ _ _ _ _ _ _ _ _ _ _ _ _ _ _ _ _ _ _ _ _ _ _ _ _ _ _ => 4 - (intOf v7).toNat)
      case atStart => exact ⟨0, by omega, rfl, HA, HF, HR, HO1, HW⟩
      case round =>
        clear HA HF HR HO1 HW
        obtain ⟨r, hr, rfl, HA, HF, HR, HO, HW⟩ := hrel
        obtain ⟨wo2, rfl⟩ : ∃ wo2, wo2 = wr := ⟨_, rfl⟩
        by_cases hlr : r < 4
        · go_wp2_with fail
          generalize decide ((r : Int) < 4) = d14 at *
          go_loopw [8, 17, 18, 19, 20, 21, 22, 23, 24, 25, 26, 27, 28, 29, 30, 31, 32, 33, 34, 35, 36, 37, 38, 39, 40, 41, 42, 43, 44, 45, 46] (fun v8 v17 v18 v19 v20 v21 v22 v23 v24 v25 v26 v27 v28 v29 v30 v31 v32 v33 v34 v35 v36 v37 v38 v39 v40 v41 v42 v43 v44 v45 v46 wl => ∃ (q : Nat), q ≤ 4 ∧ v8 = .int .i64 (q : Int) ∧ Hid (Blk.Is wl g (cB 16 b) 37) ∧ Hid (Blk.Is wl (g + 1) (cB 4 f) 62) ∧ Hid (Blk.Is wl (g + 1 + 1) (cB 16 z16) 37) ∧ Hid (Blk.Is wl (g + 1 + 1 + 1) (cB 16 (ost f b (4 * c + r) q)) 37) ∧ Hid (Below g w wl)) (fun v8 _ _ _ _ _ _ _ _ _ _ _ _ _ _ _ _ _ _ _ _ _ _ _ _ _ _ _ _ _ _ _ => 4 - (intOf v8).toNat)
          case atStart => exact ⟨0, by omega, rfl, HA, HF, HR, HO, HW⟩
          case round =>
            clear HA HF HR HO HW
            obtain ⟨q, hq, rfl, HA, HF, HR, HO, HW⟩ := hrel
            by_cases hlq : q < 4
            · obtain ⟨m, hm⟩ : ∃ m : Nat, m = 4 * c := ⟨_, rfl⟩
              obtain ⟨p, hp⟩ : ∃ p : Nat, p = m + r := ⟨_, rfl⟩
              obtain ⟨y, hy⟩ : ∃ y : Nat, y = q + 4 - r := ⟨_, rfl⟩
              obtain ⟨z, hz⟩ : ∃ z : Nat, z = y % 4 := ⟨_, rfl⟩
              obtain ⟨o, ho⟩ : ∃ o : Nat, o = m + q := ⟨_, rfl⟩
              have wA : IntKind.i64.wrap (4 * (c : Int)) = (m : Int) := by rw [IntWalk.i64_in _ (by omega)]; omega
              have wB : IntKind.i64.wrap ((m : Int) + (r : Int)) = (p : Int) := by rw [IntWalk.i64_in _ (by omega)]; omega
              have wC : IntKind.i64.wrap ((q : Int) - (r : Int)) = (q : Int) - (r : Int) := IntWalk.i64_in _ (by omega)
              have wD : IntKind.i64.wrap ((q : Int) - (r : Int) + 4) = (y : Int) := by rw [IntWalk.i64_in _ (by omega)]; omega
              have wE : Int.tmod (y : Int) 4 = (z : Int) := by rw [Int.tmod_eq_emod_of_nonneg (by omega)]; omega
              have wF : IntKind.i64.wrap ((m : Int) + (q : Int)) = (o : Int) := by rw [IntWalk.i64_in _ (by omega)]; omega
              have bp : (p : Int) < 16 := by omega
              have bz : (z : Int) < 4 := by omega
              have bo : (o : Int) < 16 := by omega
              have hp4 : p % 4 = r := by omega
              have hp5 : p / 4 * 4 + q = o := by omega
              have HFF : Hid (wr.cell? ⟨g + 1 + 1 + 1, p, none⟩ = some (.int .u8 (ofB (pt f b p q))) ∧ wr.cell? ⟨g + 1, z, none⟩ = some (.int .u8 (ofB (f z))) ∧ wr.cell? ⟨g, o, none⟩ = some (.int .u8 (ofB (b o)))) := by
                refine ⟨?_, ?_, ?_⟩
                · rw [HO.out.cell, cB_get 16 _ _ (by omega), show 4 * c + r = p by omega, ost_at]
                · rw [HF.out.cell, cB_get 4 _ _ (by omega)]
                · rw [HA.out.cell, cB_get 16 _ _ (by omega)]
              have hn : pt f b p q ^^^ mul (f z) (b o) = pt f b p (q + 1) := by
                show _ = pt f b p q ^^^ mul (f ((q + 4 - p % 4) % 4)) (b (p / 4 * 4 + q))
                rw [hp4, hp5, ← hy, ← hz]
              have hxor : Go.bits .xor .u8 (ofB (pt f b p q)) (ofB (mul (f z) (b o))) = ofB (pt f b p (q + 1)) := by rw [bits_xor, hn]
              have HON : Hid (∀ W, Blk.Is W (g + 1 + 1 + 1) (cB 16 (ost f b (4 * c + r) q)) 37 → Blk.Is (W.setCell ⟨g + 1 + 1 + 1, p, none⟩ (.int .u8 (ofB (pt f b p (q + 1))))) (g + 1 + 1 + 1) (cB 16 (ost f b (4 * c + r) (q + 1))) 37) := fun W h => by
                rw [show 4 * c + r = p by omega] at h ⊢
                have h2 := h.set p (.int .u8 (ofB (pt f b p (q + 1))))
                rw [cB_set, ost_next] at h2
                exact h2
              have HQ := Lib.hid hlq
              clear hm hp hy hz ho hp4 hp5 hn
              generalize pt f b p (q + 1) = nv at *
              generalize pt f b p q = ov at *
              generalize f z = u at *
              generalize b o = v at *
              go_wp2_with fail
              -- region 11
              refine start_ (n := 27) (S := fun w' => w'.cell? ⟨g + 1 + 1 + 1, p, none⟩ = some (.int .u8 (ofB ov)) ∧ w'.cell? ⟨g + 1, z, none⟩ = some (.int .u8 (ofB u)) ∧ w'.cell? ⟨g, o, none⟩ = some (.int .u8 (ofB v))) (ds := [26]) #[false, false, false, false, false, false, false, false, false, false, false, false, false, false, false, false, false, false, false, false, false, false, false, false, false, false, false] (by kernel_rfl) rfl rfl ⟨(HFF.out.1), (HFF.out.2.1), (HFF.out.2.2)⟩ (fun hHeld => ?_)
              have HA2 := Lib.hid HA.out.drew
              have HF2 := Lib.hid HF.out.drew
              have HR2 := Lib.hid HR.out.drew
              have HO2 := Lib.hid HO.out.drew
              have HW2 := Lib.hid HW.out.drew
              have HFF2 : Hid (wr.drew.cell? ⟨g + 1 + 1 + 1, p, none⟩ = some (.int .u8 (ofB ov)) ∧ wr.drew.cell? ⟨g + 1, z, none⟩ = some (.int .u8 (ofB u)) ∧ wr.drew.cell? ⟨g, o, none⟩ = some (.int .u8 (ofB v))) := HFF.out
              clear HA HF HR HO HW HFF
              generalize wr.drew = w2 at *
              refine pure_ (i := 0) (N := some 21) (v := ?_) (a' := ?_) #[true, false, false, false, false, false, false, false, false, false, false, false, false, false, false, false, false, false, false, false, false, false, false, false, false, false, false] rfl rfl (by kernel_rfl) (fun _ _ _ h => h) (Or.inl ⟨by rfl, ?_⟩) ?_ ?_
              rotate_left
              · intro w'
                go_simp
                with_reducible rfl
              rotate_left
              · simp only [Act.put, List.setIfInBounds_toArray, List.set_cons_zero, List.set_cons_succ, i64_w, i32_w]
                rfl
              refine pure_ (i := 1) (N := some 22) (v := ?_) (a' := ?_) #[true, true, false, false, false, false, false, false, false, false, false, false, false, false, false, false, false, false, false, false, false, false, false, false, false, false, false] rfl rfl (by kernel_rfl) (fun _ _ _ h => h) (Or.inl ⟨by rfl, ?_⟩) ?_ ?_
              rotate_left
              · intro w'
                go_simp
                with_reducible rfl
              rotate_left
              · simp only [Act.put, List.setIfInBounds_toArray, List.set_cons_zero, List.set_cons_succ, i64_w, i32_w]
                rfl
              refine pure_ (i := 2) (N := some 23) (v := ?_) (a' := ?_) #[true, true, true, false, false, false, false, false, false, false, false, false, false, false, false, false, false, false, false, false, false, false, false, false, false, false, false] rfl rfl (by kernel_rfl) (fun _ _ _ h => h) (Or.inl ⟨by rfl, ?_⟩) ?_ ?_
              rotate_left
              · intro w'
                go_simp
                with_reducible rfl
              rotate_left
              · simp only [Act.put, List.setIfInBounds_toArray, List.set_cons_zero, List.set_cons_succ, i64_w, i32_w]
                rfl
              refine pure_ (i := 3) (N := some 24) (v := ?_) (a' := ?_) #[true, true, true, true, false, false, false, false, false, false, false, false, false, false, false, false, false, false, false, false, false, false, false, false, false, false, false] rfl rfl (by kernel_rfl) (fun _ _ _ h => h) (Or.inl ⟨by rfl, ?_⟩) ?_ ?_
              rotate_left
              · intro w'
                go_simp
                with_reducible rfl
              rotate_left
              · simp only [Act.put, List.setIfInBounds_toArray, List.set_cons_zero, List.set_cons_succ, i64_w, i32_w]
                rfl
              refine pure_ (i := 4) (N := some 25) (v := ?_) (a' := ?_) #[true, true, true, true, true, false, false, false, false, false, false, false, false, false, false, false, false, false, false, false, false, false, false, false, false, false, false] rfl rfl (by kernel_rfl) (fun _ _ _ h => h) (Or.inl ⟨by rfl, ?_⟩) ?_ ?_
              rotate_left
              · intro w'
                go_simp
                with_reducible rfl
              rotate_left
              · simp only [Act.put, List.setIfInBounds_toArray, List.set_cons_zero, List.set_cons_succ, i64_w, i32_w]
                rfl
              refine pure_ (i := 5) (N := some 26) (v := ?_) (a' := ?_) #[true, true, true, true, true, true, false, false, false, false, false, false, false, false, false, false, false, false, false, false, false, false, false, false, false, false, false] rfl rfl (by kernel_rfl) (fun _ _ _ h => h) (Or.inl ⟨by rfl, ?_⟩) ?_ ?_
              rotate_left
              · intro w'
                go_simp
                with_reducible rfl
              rotate_left
              · simp only [Act.put, List.setIfInBounds_toArray, List.set_cons_zero, List.set_cons_succ, i64_w, i32_w]
                rfl
              refine pure_ (i := 6) (N := some 27) (v := ?_) (a' := ?_) #[true, true, true, true, true, true, true, false, false, false, false, false, false, false, false, false, false, false, false, false, false, false, false, false, false, false, false] rfl rfl (by kernel_rfl) (fun _ _ _ h => h) (Or.inl ⟨by rfl, ?_⟩) ?_ ?_
              rotate_left
              · intro w'
                go_simp
                with_reducible rfl
              rotate_left
              · simp only [Act.put, List.setIfInBounds_toArray, List.set_cons_zero, List.set_cons_succ, i64_w, i32_w]
                rfl
              refine pure_ (i := 7) (N := some 28) (v := ?_) (a' := ?_) #[true, true, true, true, true, true, true, true, false, false, false, false, false, false, false, false, false, false, false, false, false, false, false, false, false, false, false] rfl rfl (by kernel_rfl) (fun _ _ _ h => h) (Or.inl ⟨by rfl, ?_⟩) ?_ ?_
              rotate_left
              · intro w'
                go_simp
                with_reducible rfl
              rotate_left
              · simp only [Act.put, List.setIfInBounds_toArray, List.set_cons_zero, List.set_cons_succ, i64_w, i32_w]
                rfl
              refine pure_ (i := 8) (N := some 29) (v := ?_) (a' := ?_) #[true, true, true, true, true, true, true, true, true, false, false, false, false, false, false, false, false, false, false, false, false, false, false, false, false, false, false] rfl rfl (by kernel_rfl) (fun _ _ _ h => h) (Or.inl ⟨by rfl, ?_⟩) ?_ ?_
              rotate_left
              · intro w'
                go_simp
                with_reducible rfl
              rotate_left
              · simp only [Act.put, List.setIfInBounds_toArray, List.set_cons_zero, List.set_cons_succ, i64_w, i32_w]
                rfl
              refine pure_ (i := 10) (N := some 31) (v := ?_) (a' := ?_) #[true, true, true, true, true, true, true, true, true, false, true, false, false, false, false, false, false, false, false, false, false, false, false, false, false, false, false] rfl rfl (by kernel_rfl) (fun _ _ _ h => h) (Or.inl ⟨by rfl, ?_⟩) ?_ ?_
              rotate_left
              · intro w'
                go_simp
                with_reducible rfl
              rotate_left
              · simp only [Act.put, List.setIfInBounds_toArray, List.set_cons_zero, List.set_cons_succ, i64_w, i32_w]
                rfl
              refine pure_ (i := 11) (N := some 32) (v := ?_) (a' := ?_) #[true, true, true, true, true, true, true, true, true, false, true, true, false, false, false, false, false, false, false, false, false, false, false, false, false, false, false] rfl rfl (by kernel_rfl) (fun _ _ _ h => h) (Or.inl ⟨by rfl, ?_⟩) ?_ ?_
              rotate_left
              · intro w'
                go_simp
                with_reducible rfl
              rotate_left
              · simp only [Act.put, List.setIfInBounds_toArray, List.set_cons_zero, List.set_cons_succ, i64_w, i32_w]
                rfl
              refine pure_ (i := 12) (N := some 33) (v := ?_) (a' := ?_) #[true, true, true, true, true, true, true, true, true, false, true, true, true, false, false, false, false, false, false, false, false, false, false, false, false, false, false] rfl rfl (by kernel_rfl) (fun _ _ _ h => h) (Or.inl ⟨by rfl, ?_⟩) ?_ ?_
              rotate_left
              · intro w'
                go_simp
                with_reducible rfl
              rotate_left
              · simp only [Act.put, List.setIfInBounds_toArray, List.set_cons_zero, List.set_cons_succ, i64_w, i32_w]
                rfl
              refine pure_ (i := 13) (N := some 34) (v := ?_) (a' := ?_) #[true, true, true, true, true, true, true, true, true, false, true, true, true, true, false, false, false, false, false, false, false, false, false, false, false, false, false] rfl rfl (by kernel_rfl) (fun _ _ _ h => h) (Or.inl ⟨by rfl, ?_⟩) ?_ ?_
              rotate_left
              · intro w'
                go_simp
                with_reducible rfl
              rotate_left
              · simp only [Act.put, List.setIfInBounds_toArray, List.set_cons_zero, List.set_cons_succ, i64_w, i32_w]
                rfl
              refine pure_ (i := 14) (N := some 35) (v := ?_) (a' := ?_) #[true, true, true, true, true, true, true, true, true, false, true, true, true, true, true, false, false, false, false, false, false, false, false, false, false, false, false] rfl rfl (by kernel_rfl) (fun _ _ _ h => h) (Or.inl ⟨by rfl, ?_⟩) ?_ ?_
              rotate_left
              · intro w'
                go_simp
                with_reducible rfl
              rotate_left
              · simp only [Act.put, List.setIfInBounds_toArray, List.set_cons_zero, List.set_cons_succ, i64_w, i32_w]
                rfl
              refine pure_ (i := 15) (N := some 36) (v := ?_) (a' := ?_) #[true, true, true, true, true, true, true, true, true, false, true, true, true, true, true, true, false, false, false, false, false, false, false, false, false, false, false] rfl rfl (by kernel_rfl) (fun _ _ _ h => h) (Or.inl ⟨by rfl, ?_⟩) ?_ ?_
              rotate_left
              · intro w'
                go_simp
                with_reducible rfl
              rotate_left
              · simp only [Act.put, List.setIfInBounds_toArray, List.set_cons_zero, List.set_cons_succ, i64_w, i32_w]
                rfl
              refine pure_ (i := 17) (N := some 38) (v := ?_) (a' := ?_) #[true, true, true, true, true, true, true, true, true, false, true, true, true, true, true, true, false, true, false, false, false, false, false, false, false, false, false] rfl rfl (by kernel_rfl) (fun _ _ _ h => h) (Or.inl ⟨by rfl, ?_⟩) ?_ ?_
              rotate_left
              · intro w'
                go_simp
                with_reducible rfl
              rotate_left
              · simp only [Act.put, List.setIfInBounds_toArray, List.set_cons_zero, List.set_cons_succ, i64_w, i32_w]
                rfl
              refine pure_ (i := 18) (N := some 39) (v := ?_) (a' := ?_) #[true, true, true, true, true, true, true, true, true, false, true, true, true, true, true, true, false, true, true, false, false, false, false, false, false, false, false] rfl rfl (by kernel_rfl) (fun _ _ _ h => h) (Or.inl ⟨by rfl, ?_⟩) ?_ ?_
              rotate_left
              · intro w'
                go_simp
                with_reducible rfl
              rotate_left
              · simp only [Act.put, List.setIfInBounds_toArray, List.set_cons_zero, List.set_cons_succ, i64_w, i32_w]
                rfl
              refine pure_ (i := 19) (N := some 40) (v := ?_) (a' := ?_) #[true, true, true, true, true, true, true, true, true, false, true, true, true, true, true, true, false, true, true, true, false, false, false, false, false, false, false] rfl rfl (by kernel_rfl) (fun _ _ _ h => h) (Or.inl ⟨by rfl, ?_⟩) ?_ ?_
              rotate_left
              · intro w'
                go_simp
                with_reducible rfl
              rotate_left
              · simp only [Act.put, List.setIfInBounds_toArray, List.set_cons_zero, List.set_cons_succ, i64_w, i32_w]
                rfl
              refine pure_ (i := 20) (N := some 41) (v := ?_) (a' := ?_) #[true, true, true, true, true, true, true, true, true, false, true, true, true, true, true, true, false, true, true, true, true, false, false, false, false, false, false] rfl rfl (by kernel_rfl) (fun _ _ _ h => h) (Or.inl ⟨by rfl, ?_⟩) ?_ ?_
              rotate_left
              · intro w'
                go_simp
                with_reducible rfl
              rotate_left
              · simp only [Act.put, List.setIfInBounds_toArray, List.set_cons_zero, List.set_cons_succ, i64_w, i32_w]
                rfl
              refine pure_ (i := 21) (N := some 42) (v := ?_) (a' := ?_) #[true, true, true, true, true, true, true, true, true, false, true, true, true, true, true, true, false, true, true, true, true, true, false, false, false, false, false] rfl rfl (by kernel_rfl) (fun _ _ _ h => h) (Or.inl ⟨by rfl, ?_⟩) ?_ ?_
              rotate_left
              · intro w'
                go_simp
                with_reducible rfl
              rotate_left
              · simp only [Act.put, List.setIfInBounds_toArray, List.set_cons_zero, List.set_cons_succ, i64_w, i32_w]
                rfl
              refine take_ (i := 9) (N := some 30) (v := ?_) (a' := ?_) #[true, true, true, true, true, true, true, true, true, true, true, true, true, true, true, true, false, true, true, true, true, true, false, false, false, false, false] rfl rfl (by kernel_rfl) (fun _ _ _ h => h) (Or.inl ⟨by rfl, ?_⟩) hHeld ?_ ?_
              rotate_left
              · rintro w' ⟨s0, s1, s2⟩
                go_simp
                with_reducible rfl
              rotate_left
              · simp only [Act.put, List.setIfInBounds_toArray, List.set_cons_zero, List.set_cons_succ, i64_w, i32_w]
                rfl
              refine take_ (i := 16) (N := some 37) (v := ?_) (a' := ?_) #[true, true, true, true, true, true, true, true, true, true, true, true, true, true, true, true, true, true, true, true, true, true, false, false, false, false, false] rfl rfl (by kernel_rfl) (fun _ _ _ h => h) (Or.inl ⟨by rfl, ?_⟩) hHeld ?_ ?_
              rotate_left
              · rintro w' ⟨s0, s1, s2⟩
                go_simp
                with_reducible rfl
              rotate_left
              · simp only [Act.put, List.setIfInBounds_toArray, List.set_cons_zero, List.set_cons_succ, i64_w, i32_w]
                rfl
              refine take_ (i := 22) (N := some 43) (v := ?_) (a' := ?_) #[true, true, true, true, true, true, true, true, true, true, true, true, true, true, true, true, true, true, true, true, true, true, true, false, false, false, false] rfl rfl (by kernel_rfl) (fun _ _ _ h => h) (Or.inl ⟨by rfl, ?_⟩) hHeld ?_ ?_
              rotate_left
              · rintro w' ⟨s0, s1, s2⟩
                go_simp
                with_reducible rfl
              rotate_left
              · simp only [Act.put, List.setIfInBounds_toArray, List.set_cons_zero, List.set_cons_succ, i64_w, i32_w]
                rfl
              refine one_ (i := 23) (N := some 44) #[true, true, true, true, true, true, true, true, true, true, true, true, true, true, true, true, true, true, true, true, true, true, true, true, false, false, false] rfl rfl (by kernel_rfl) (by decide) (fun K hK => ?_)
              refine goes_ Try.func41 (by kernel_rfl) rfl #[.int .u8 (ofB u), .int .u8 (ofB v)] (by rfl) rfl rfl (by simp only [List.map_toArray, List.map_cons, List.map_nil]; rfl) ?_
              with_reducible refine (times_calls u v w2).mono ?_
              rintro e w3 ⟨rfl, nd, rfl⟩
              refine ⟨_, rfl, ?_⟩
              have HA3 := Lib.hid (HA2.out.drewN nd)
              have HF3 := Lib.hid (HF2.out.drewN nd)
              have HR3 := Lib.hid (HR2.out.drewN nd)
              have HO3 := Lib.hid (HO2.out.drewN nd)
              have HW3 := Lib.hid (pw_below_drewN HW2.out nd)
              have HFF3 : Hid ((w2.drewN nd).cell? ⟨g + 1 + 1 + 1, p, none⟩ = some (.int .u8 (ofB ov)) ∧ (w2.drewN nd).cell? ⟨g + 1, z, none⟩ = some (.int .u8 (ofB u)) ∧ (w2.drewN nd).cell? ⟨g, o, none⟩ = some (.int .u8 (ofB v))) := HFF2.out
              clear HA2 HF2 HR2 HO2 HW2 HFF2
              generalize w2.drewN nd = w3 at *
              refine hK.out _ _ ⟨(HFF3.out.1), (HFF3.out.2.1), (HFF3.out.2.2)⟩ (fun hHeld => ?_)
              clear hK K
              refine norm_ (a' := ?_) ?_ ?_
              rotate_left
              · show Act.put _ (some 44) _ = _
                simp only [Act.put, List.setIfInBounds_toArray, List.set_cons_zero, List.set_cons_succ, i64_w, i32_w]
                rfl
              refine pure_ (i := 24) (N := some 45) (v := ?_) (a' := ?_) #[true, true, true, true, true, true, true, true, true, true, true, true, true, true, true, true, true, true, true, true, true, true, true, true, true, false, false] rfl rfl (by kernel_rfl) (fun _ _ _ h => h) (Or.inl ⟨by rfl, ?_⟩) ?_ ?_
              rotate_left
              · intro w'
                go_simp
                with_reducible rfl
              rotate_left
              · simp only [Act.put, List.setIfInBounds_toArray, List.set_cons_zero, List.set_cons_succ, i64_w, i32_w]
                rfl
              refine pure_ (i := 25) (N := some 46) (v := ?_) (a' := ?_) #[true, true, true, true, true, true, true, true, true, true, true, true, true, true, true, true, true, true, true, true, true, true, true, true, true, true, false] rfl rfl (by kernel_rfl) (fun _ _ _ h => h) (Or.inl ⟨by rfl, ?_⟩) ?_ ?_
              rotate_left
              · intro w'
                go_simp
                with_reducible rfl
              rotate_left
              · simp only [Act.put, List.setIfInBounds_toArray, List.set_cons_zero, List.set_cons_succ, i64_w, i32_w]
                rfl
              refine last_ (i := 26) (N := none) #[true, true, true, true, true, true, true, true, true, true, true, true, true, true, true, true, true, true, true, true, true, true, true, true, true, true, true] rfl rfl (by kernel_rfl) (by decide) (fun K hK => ?_)
              have z0 := HFF3.out.1
              have f0 := HO3.out.free p
              refine skip_ (w1 := ?_) (by rfl) rfl ?_ ?_
              rotate_left
              · go_simp
                rfl
              refine hK.out _ _ ?_
              clear hK K
              refine done_ (by kernel_rfl) ?_
              -- behind it
              go_wp2_with fail
              go_roundw
              case rel => exact ⟨q + 1, by have := HQ.out; omega, by go_num, HA3.out.other (by simp; omega) _, HF3.out.other (by simp) _, HR3.out.other (by simp) _, HON.out _ HO3.out, HW3.out.setCell (by show g ≤ g + 1 + 1 + 1; omega) _⟩
              case measure => simp [intOf]; omega
            · obtain rfl : q = 4 := by omega
              go_wp2_with fail
              go_roundw
              case rel => exact ⟨r + 1, by omega, by go_num, HA.out, HF.out, HR.out, by rw [← Nat.add_assoc, ← ost_step]; exact HO.out, HW.out⟩
              case measure => simp [intOf]; omega
        · obtain rfl : r = 4 := by omega
          go_wp2_with fail
          go_roundw
          case rel => exact ⟨c + 1, by omega, by go_num, HA.out, HF.out, HR.out, HO.out, HW.out⟩
          case measure => simp [intOf]; omega
    · obtain rfl : c = 4 := by omega
      have HOE : Hid (Blk.Is wo (g + 1 + 1 + 1) (cB 16 (mxS f b)) 37) := by
        rw [← cB_congr (fun q hq => show ost f b (4 * 4) 0 q = mxS f b q by unfold ost; rw [if_pos (by omega)])]
        exact HO.out
      clear HO
      have hlk := Blk.load_row HOE.out (P := Try.prog) (t := 37) Try.underlying37 rfl (by rw [cB_size]; kernel_rfl)
      have hsr := Blk.store_row (P := Try.prog) (t := 37) (cB 16 (mxS f b)) HR.out (by rw [cB_size]; kernel_rfl) (by rw [cB_size, cB_size]) (cB_one _ _)
      have HR7 := Lib.hid (HR.out.setRow (cB 16 (mxS f b)))
      have HW7 := Lib.hid (Blk.below_setRow HW.out (show g ≤ g + 1 + 1 by omega) (cB 16 (mxS f b)))
      go_wp2_with fail
      refine bodyPost_ret (results_cell_row rfl _ _ (g + 1 + 1) 37 (cB 16 (mxS f b)) (0, 0) _ rfl HR7.out Try.underlying37 rfl (by rw [cB_size]; kernel_rfl)) rfl ?_
      exact ⟨rfl, by rw [HG.out]; exact HW7.out⟩
end Go.Proofs.Ytbebmbcjddibaaa.Aes
namespace Go.Proofs.Ytbebmbcjddibaaa.Aes
set_option linter.unusedVariables false
set_option linter.unusedSimpArgs false
open Go.RowKit Go.Proofs.YtbebmbcjddibaaaW.PrintWords Go.Proofs.YtbebmbcjddibaaaW.PrintLast Go.Proofs.YtbebmbcjddibaaaW.PrintMore
open Gf Gfi Poly AesF
attribute [local go_sem ↓] ld4 st4 ld31 st31 ld23 st23
def f2311 : Nat → B := fun q => if q = 0 then 2#8 else if q = 1 then 3#8 else if q = 2 then 1#8 else 1#8
def fback : Nat → B := fun q => if q = 0 then 14#8 else if q = 1 then 11#8 else if q = 2 then 13#8 else 9#8
theorem mixed_fwd (b : Nat → B) (w : World) : Calls Try.prog 31 #[.agg (cB 16 b), .agg #[.int .u8 2, .int .u8 3, .int .u8 1, .int .u8 1]] w fun e w' => e = .returned (.agg (cB 16 (mxS f2311 b))) ∧ Below w.heap.size w w' := mixed_calls f2311 b w
theorem mixed_bwd (b : Nat → B) (w : World) : Calls Try.prog 31 #[.agg (cB 16 b), .agg #[.int .u8 14, .int .u8 11, .int .u8 13, .int .u8 9]] w fun e w' => e = .returned (.agg (cB 16 (mxS fback b))) ∧ Below w.heap.size w w' := mixed_calls fback b w
def rround (K : Nat → B) (r : Nat) (st : Nat → B) : Nat → B := addS K r (if r < 14 then mxS f2311 (shiftS (swapS K st)) else shiftS (swapS K st))
def rbl (K b : Nat → B) : Nat → Nat → B
  | 0 => addS K 0 b
  | r + 1 => rround K (r + 1) (rbl K b r)
def runround (K : Nat → B) (r : Nat) (st : Nat → B) : Nat → B := unshiftS (backS K (if r < 14 then mxS fback (addS K r st) else addS K r st))
def rbk (K b : Nat → B) : Nat → Nat → B
  | 0 => b
  | q + 1 => runround K (14 - q) (rbk K b q)
theorem rbl_pred (K b : Nat → B) (r : Nat) (h : 1 ≤ r) : rround K r (rbl K b (r - 1)) = rbl K b r := by
  obtain ⟨q, rfl⟩ : ∃ q, r = q + 1 := ⟨r - 1, by omega⟩
  rfl
theorem rbk_pred (K b : Nat → B) (r : Nat) (h : 1 ≤ r) (h2 : r ≤ 14) : runround K r (rbk K b (14 - r)) = rbk K b (14 - (r - 1)) := by
  have e : 14 - (r - 1) = (14 - r) + 1 := by omega
  rw [e]
  show _ = runround K (14 - (14 - r)) (rbk K b (14 - r))
  rw [show 14 - (14 - r) = r by omega]
set_option maxRecDepth 100000 in
set_option maxHeartbeats 2000000 in
theorem rblock_calls (K b : Nat → B) (w : World) : Calls Try.prog 21 #[.agg (cB 752 K), .agg (cB 16 b)] w fun e w' => e = .returned (.agg (cB 16 (rbl K b 14))) ∧ Below w.heap.size w w' := by
  have e1 : (w.alloc (.cells (cB 752 K) 46)).heap.size = w.heap.size + 1 := by simp
  have e2 : ((w.alloc (.cells (cB 752 K) 46)).alloc (.cells (cB 16 b) 37)).heap.size = w.heap.size + 1 + 1 := by simp
  have HK0 := Lib.hid (((Blk.Is.new w (cB 752 K) 46).alloc (.cells (cB 16 b) 37)).alloc (.cells (cB 16 z16) 37))
  have HB0 := Lib.hid ((Blk.Is.new (w.alloc (.cells (cB 752 K) 46)) (cB 16 b) 37).alloc (.cells (cB 16 z16) 37))
  have HR0 := Lib.hid (Blk.Is.new ((w.alloc (.cells (cB 752 K) 46)).alloc (.cells (cB 16 b) 37)) (cB 16 z16) 37)
  rw [e1] at HB0
  rw [e2] at HR0
  have HW0 := Lib.hid ((((Below.refl _ w).alloc (Nat.le_refl _) (.cells (cB 752 K) 46)).alloc (by omega) (.cells (cB 16 b) 37)).alloc (by omega) (.cells (cB 16 z16) 37))
  have HS0 : Hid (w.heap.size ≤ (((w.alloc (.cells (cB 752 K) 46)).alloc (.cells (cB 16 b) 37)).alloc (.cells (cB 16 z16) 37)).heap.size) := HW0.out.size
  clear e1 e2
  have hlk : (Blk.ld 46 (.pointer (some ⟨w.heap.size, 0, none⟩))).run Try.prog _ = .ok _ _ := Blk.load_row HK0.out (P := Try.prog) (t := 46) Try.underlying46 rfl (by rw [cB_size]; kernel_rfl)
  have hlb : (Blk.ld 37 (.pointer (some ⟨w.heap.size + 1, 0, none⟩))).run Try.prog _ = .ok _ _ := Blk.load_row HB0.out (P := Try.prog) (t := 37) Try.underlying37 rfl (by rw [cB_size]; kernel_rfl)
  rw [← lit16] at hlk hlb HK0 HB0 HR0 HW0 HS0
  go_enter Try.func21, Try.ntmps21
  go_wp2_with fail
  rw [lit16] at hlk hlb HK0 HB0 HR0 HW0 HS0 ⊢
  clear hlk hlb
  generalize ((w.alloc (.cells (cB 752 K) 46)).alloc (.cells (cB 16 b) 37)).alloc (.cells (cB 16 z16) 37) = w0 at *
  generalize hg : w.heap.size = g at *
  have HG := Lib.hid hg
  clear hg HS0
  have HKw0 := HK0
  have HBw0 := HB0
  have HRw0 := HR0
  have HWw0 := HW0
  clear HK0 HB0 HR0 HW0
  refine (added_calls K b 0 (by omega) w0).mono ?_
  rintro e w1 ⟨rfl, hB⟩
  have HKw1 := Lib.hid (HKw0.out.below hB HKw0.out.lt)
  have HBw1 := Lib.hid (HBw0.out.below hB HBw0.out.lt)
  have HRw1 := Lib.hid (HRw0.out.below hB HRw0.out.lt)
  have HWw1 := Lib.hid (HWw0.out.trans (hB.mono (by have := HKw0.out.lt; omega)))
  clear hB HKw0 HBw0 HRw0 HWw0
  have hsb := Blk.store_row (P := Try.prog) (t := 37) (cB 16 (addS K 0 b)) HBw1.out (by rw [cB_size]; kernel_rfl) (by rw [cB_size, cB_size]) (cB_one _ _)
  have hkp : Keeps (g + 1) w1 (w1.setRow (g + 1) (cB 16 (addS K 0 b))) := ⟨Blk.below_setRow (Below.refl _ _) (Nat.le_refl _) _, fun k _ hk => setRow_other w1 (g + 1) k _ hk⟩
  have HKw2 := Lib.hid (hkp.is HKw1.out (by omega))
  have HRw2 := Lib.hid (hkp.is HRw1.out (by omega))
  have HBw2 := Lib.hid (HBw1.out.setRow (cB 16 (addS K 0 b)))
  have HWw2 := Lib.hid (HWw1.out.trans (hkp.below.mono (by omega)))
  clear hkp HKw1 HRw1 HBw1 HWw1
  go_wp2_with fail
  clear hsb
  generalize w1.setRow (g + 1) (cB 16 (addS K 0 b)) = w2 at *
  go_loopw [5, 6, 7, 8, 12, 13, 14, 15, 16, 17, 18, 19, 20, 21, 22, 23, 24, 25, 26, 27, 28, 29, 30, 31, 32, 33, 34, 35, 36, 37, 38, 39, 40, 41, 42, 43, 44, 45, 46, 47, 48, 49, 50] (fun v5 v6 v7 v8 v12 v13 v14 v15 v16 v17 v18 v19 v20 v21 v22 v23 v24 v25 v26 v27 v28 v29 v30 v31 v32 v33 v34 v35 v36 v37 v38 v39 v40 v41 v42 v43 v44 v45 v46 v47 v48 v49 v50 wr => ∃ (r : Nat), r ≤ 15 ∧ v5 = .int .i64 (r : Int) ∧ Hid (1 ≤ r) ∧ Hid (Blk.Is wr g (cB 752 K) 46) ∧ Hid (Blk.Is wr (g + 1) (cB 16 (rbl K b (r - 1))) 37) ∧ Hid (Blk.Is wr (g + 1 + 1) (cB 16 z16) 37) ∧ Hid (Below g w wr)) (fun v5 _ _ _ _ _ _ _ _ _ _ _ _ _ _ _ _ _ _ _ _ _ _ _ _ _ _ _ _ _ _ _ _ _ _ _ _ _ _ _ _ _ _ _ => 15 - (intOf v5).toNat)
  case atStart => exact ⟨1, by omega, rfl, Nat.le_refl 1, HKw2, HBw2, HRw2, HWw2⟩
  case round =>
    clear HKw2 HBw2 HRw2 HWw2
    obtain ⟨r, hr, rfl, HR1, HKa, HBa, HRa, HWa⟩ := hrel
    obtain ⟨wo, rfl⟩ : ∃ wo, wo = wr := ⟨_, rfl⟩
    by_cases hlt : r < 15
    · have hle : (r : Int) ≤ 14 := by omega
      have HST := Lib.hid (rbl_pred K b r HR1.out)
      generalize rbl K b (r - 1) = st at *
      have HGT : Hid (g + 1 + 1 < wo.heap.size) := HRa.out.lt
      have HTt := Lib.hid (Blk.Is.new wo (cB 16 z16) 37)
      have HKt := Lib.hid (HKa.out.alloc (.cells (cB 16 z16) 37))
      have HBt := Lib.hid (HBa.out.alloc (.cells (cB 16 z16) 37))
      have HRt := Lib.hid (HRa.out.alloc (.cells (cB 16 z16) 37))
      have HWt := Lib.hid (HWa.out.alloc (by have := HGT.out; omega) (.cells (cB 16 z16) 37))
      clear HKa HBa HRa HWa
      go_wp2_with fail
      rw [lit16]
      have HLE := Lib.hid hle
      clear hle hlt
      generalize decide ((r : Int) ≤ 14) = dr at *
      generalize wo.alloc (.cells (cB 16 z16) 37) = wt at *
      generalize wo.heap.size = gt at *
      go_loopw [7, 8, 16, 17, 18, 19, 20, 21, 22, 23, 24, 25, 26, 27, 28, 29, 30, 31, 32, 33, 34, 35, 36, 37, 38, 39, 40] (fun v7 v8 v16 v17 v18 v19 v20 v21 v22 v23 v24 v25 v26 v27 v28 v29 v30 v31 v32 v33 v34 v35 v36 v37 v38 v39 v40 wl => ∃ (c : Nat), c ≤ 4 ∧ v7 = .int .i64 (c : Int) ∧ Hid (Blk.Is wl g (cB 752 K) 46) ∧ Hid (Blk.Is wl (g + 1) (cB 16 st) 37) ∧ Hid (Blk.Is wl (g + 1 + 1) (cB 16 z16) 37) ∧ Hid (Blk.Is wl gt (cB 16 (upto id (shiftS (swapS K st)) z16 (4 * c))) 37) ∧ Hid (Below g w wl)) (fun v7 _ _ _ _ _ _ _ _ _ _ _ _ _ _ _ _ _ _ _ _ _ _ _ _ _ _ _ => 4 - (intOf v7).toNat)
      case atStart => exact ⟨0, by omega, rfl, HKt, HBt, HRt, by rw [← cB_congr (fun q _ => upto_zero id (shiftS (swapS K st)) z16 q)]; exact HTt, HWt⟩
      case round =>
        clear HKt HBt HRt HTt HWt
        obtain ⟨c, hc, rfl, HKt, HBt, HRt, HTt, HWt⟩ := hrel
        obtain ⟨wo2, rfl⟩ : ∃ wo2, wo2 = wr := ⟨_, rfl⟩
        by_cases hlc : c < 4
        · go_wp2_with fail
          generalize decide ((c : Int) < 4) = dc at *
          have HTu : Hid (Blk.Is wo2 gt (cB 16 (upto id (shiftS (swapS K st)) z16 (4 * c + 0))) 37) := HTt
          clear HTt
          go_loopw [8, 20, 21, 22, 23, 24, 25, 26, 27, 28, 29, 30, 31, 32, 33, 34, 35, 36, 37, 38, 39, 40] (fun v8 v20 v21 v22 v23 v24 v25 v26 v27 v28 v29 v30 v31 v32 v33 v34 v35 v36 v37 v38 v39 v40 wl => ∃ (q : Nat), q ≤ 4 ∧ v8 = .int .i64 (q : Int) ∧ Hid (Blk.Is wl g (cB 752 K) 46) ∧ Hid (Blk.Is wl (g + 1) (cB 16 st) 37) ∧ Hid (Blk.Is wl (g + 1 + 1) (cB 16 z16) 37) ∧ Hid (Blk.Is wl gt (cB 16 (upto id (shiftS (swapS K st)) z16 (4 * c + q))) 37) ∧ Hid (Below g w wl)) (fun v8 _ _ _ _ _ _ _ _ _ _ _ _ _ _ _ _ _ _ _ _ _ _ => 4 - (intOf v8).toNat)
          case atStart => exact ⟨0, by omega, rfl, HKt, HBt, HRt, HTu, HWt⟩
          case round =>
            clear HKt HBt HRt HTu HWt
            obtain ⟨q, hq, rfl, HKt, HBt, HRt, HTt, HWt⟩ := hrel
            by_cases hlq : q < 4
            · obtain ⟨m, hm⟩ : ∃ m : Nat, m = 4 * c := ⟨_, rfl⟩
              obtain ⟨p, hp⟩ : ∃ p : Nat, p = m + q := ⟨_, rfl⟩
              obtain ⟨y, hy⟩ : ∃ y : Nat, y = c + q := ⟨_, rfl⟩
              obtain ⟨z, hz⟩ : ∃ z : Nat, z = y % 4 := ⟨_, rfl⟩
              obtain ⟨x, hx⟩ : ∃ x : Nat, x = 4 * z := ⟨_, rfl⟩
              obtain ⟨o, ho⟩ : ∃ o : Nat, o = x + q := ⟨_, rfl⟩
              have wA : IntKind.i64.wrap (4 * (c : Int)) = (m : Int) := by rw [IntWalk.i64_in _ (by omega)]; omega
              have wB : IntKind.i64.wrap ((m : Int) + (q : Int)) = (p : Int) := by rw [IntWalk.i64_in _ (by omega)]; omega
              have wC : IntKind.i64.wrap ((c : Int) + (q : Int)) = (y : Int) := by rw [IntWalk.i64_in _ (by omega)]; omega
              have wE : Int.tmod (y : Int) 4 = (z : Int) := by rw [Int.tmod_eq_emod_of_nonneg (by omega)]; omega
              have wF : IntKind.i64.wrap (4 * (z : Int)) = (x : Int) := by rw [IntWalk.i64_in _ (by omega)]; omega
              have wG : IntKind.i64.wrap ((x : Int) + (q : Int)) = (o : Int) := by rw [IntWalk.i64_in _ (by omega)]; omega
              have bp : (p : Int) < 16 := by omega
              have bo : (o : Int) < 16 := by omega
              have hpo : (p + 4 * (p % 4)) % 16 = o := by omega
              have cs : wr.cell? ⟨g + 1, o, none⟩ = some (.int .u8 (ofB (st o))) := by rw [HBt.out.cell, cB_get 16 _ _ (by omega)]
              have ck : wr.cell? ⟨g, 240 + (ofB (st o)).toNat, none⟩ = some (.int .u8 (ofB (K (240 + (st o).toNat)))) := by
                have e : (ofB (st o)).toNat = (st o).toNat := by simp [ofB]
                rw [HKt.out.cell, e, cB_get 752 _ _ (by have := (st o).isLt; omega)]
              have ct : wr.cell? ⟨gt, p, none⟩ = some (.int .u8 (ofB (upto id (shiftS (swapS K st)) z16 (4 * c + q) p))) := by rw [HTt.out.cell, cB_get 16 _ _ (by omega)]
              have ft := HTt.out.free p
              have lo := (ofB_range (st o)).1
              have hi' := (ofB_range (st o)).2
              have hv : K (240 + (st o).toNat) = (shiftS (swapS K st)) p := by rw [← hpo]; rfl
              have hup : ∀ j, j < 16 → updB (upto id (shiftS (swapS K st)) z16 p) p ((shiftS (swapS K st)) p) j = upto id (shiftS (swapS K st)) z16 (p + 1) j := fun j hj => upto_next id (shiftS (swapS K st)) z16 p p rfl (fun j _ h => h) j hj
              have HTN : Hid (∀ W, Blk.Is W gt (cB 16 (upto id (shiftS (swapS K st)) z16 (4 * c + q))) 37 → Blk.Is (W.setCell ⟨gt, p, none⟩ (.int .u8 (ofB (K (240 + (st o).toNat))))) gt (cB 16 (upto id (shiftS (swapS K st)) z16 (4 * c + (q + 1)))) 37) := fun W h => by
                have h2 := h.set p (.int .u8 (ofB (K (240 + (st o).toNat))))
                have e0 : 4 * c + q = p := by omega
                have e1 : 4 * c + (q + 1) = p + 1 := by omega
                rw [e1]
                rw [cB_set, hv, e0, cB_congr hup] at h2
                rw [hv]
                exact h2
              have HQ := Lib.hid hlq
              clear hm hp hy hz hx ho hpo hv hup
              generalize ofB (upto id (shiftS (swapS K st)) z16 (4 * c + q) p) = ov at *
              generalize K (240 + (st o).toNat) = kv at *
              generalize ofB (st o) = sv at *
              go_wp2_with fail
              clear wA wB wC wE wF wG bp bo cs ck ct ft lo hi'
              go_roundw
              case rel => exact ⟨q + 1, by have := HQ.out; omega, by go_num, HKt.out.other (by have := HGT.out; simp; omega) _, HBt.out.other (by have := HGT.out; simp; omega) _, HRt.out.other (by have := HGT.out; simp; omega) _, HTN.out _ HTt.out, HWt.out.setCell (by have := HGT.out; show g ≤ gt; omega) _⟩
              case measure => simp [intOf]; omega
            · obtain rfl : q = 4 := by omega
              go_wp2_with fail
              go_roundw
              case rel => exact ⟨c + 1, by omega, by go_num, HKt, HBt, HRt, HTt, HWt⟩
              case measure => simp [intOf]; omega
        · obtain rfl : c = 4 := by omega
          have HTe : Hid (Blk.Is wo2 gt (cB 16 (shiftS (swapS K st))) 37) := by
            rw [← cB_congr (fun q hq => upto_end id (shiftS (swapS K st)) z16 16 q hq)]
            exact HTt.out
          clear HTt
          have HKb := HKt
          have HBwo2 := HBt
          have HRwo2 := HRt
          have HWwo2 := HWt
          have HKwo2 := HKb
          clear HKb HBt HRt HWt HKt
          have HTN' := HTe
          generalize hF : (shiftS (swapS K st)) = F at *
          have HF := Lib.hid hF
          clear hF
          have hlt6 := Blk.load_row HTe.out (P := Try.prog) (t := 37) Try.underlying37 rfl (by rw [cB_size]; kernel_rfl)
          have hsb := Blk.store_row (P := Try.prog) (t := 37) (cB 16 (F)) HBwo2.out (by rw [cB_size]; kernel_rfl) (by rw [cB_size, cB_size]) (cB_one _ _)
          have hkp : Keeps (g + 1) wo2 (wo2.setRow (g + 1) (cB 16 (F))) := ⟨Blk.below_setRow (Below.refl _ _) (Nat.le_refl _) _, fun k _ hk => setRow_other wo2 (g + 1) k _ hk⟩
          have HKw3 := Lib.hid (hkp.is HKwo2.out (by omega))
          have HRw3 := Lib.hid (hkp.is HRwo2.out (by omega))
          have HBw3 := Lib.hid (HBwo2.out.setRow (cB 16 (F)))
          have HWw3 := Lib.hid (HWwo2.out.trans (hkp.below.mono (by omega)))
          clear hkp HKwo2 HRwo2 HBwo2 HWwo2
          have HK3 := HKw3
          have hle := HLE.out
          by_cases h14 : r < 14
          · have hb' := Blk.load_row HBw3.out (P := Try.prog) (t := 37) Try.underlying37 rfl (by rw [cB_size]; kernel_rfl)
            go_wp2_with fail
            clear hlt6 hb' hsb
            generalize wo2.setRow (g + 1) (cB 16 F) = w3 at *
            clear HK3
            refine (mixed_fwd F w3).mono ?_
            rintro e w4 ⟨rfl, hB⟩
            have HKw4 := Lib.hid (HKw3.out.below hB HKw3.out.lt)
            have HBw4 := Lib.hid (HBw3.out.below hB HBw3.out.lt)
            have HRw4 := Lib.hid (HRw3.out.below hB HRw3.out.lt)
            have HWw4 := Lib.hid (HWw3.out.trans (hB.mono (by have := HKw3.out.lt; omega)))
            clear hB HKw3 HBw3 HRw3 HWw3
            have hsb := Blk.store_row (P := Try.prog) (t := 37) (cB 16 (mxS f2311 F)) HBw4.out (by rw [cB_size]; kernel_rfl) (by rw [cB_size, cB_size]) (cB_one _ _)
            have hkp : Keeps (g + 1) w4 (w4.setRow (g + 1) (cB 16 (mxS f2311 F))) := ⟨Blk.below_setRow (Below.refl _ _) (Nat.le_refl _) _, fun k _ hk => setRow_other w4 (g + 1) k _ hk⟩
            have HKw5 := Lib.hid (hkp.is HKw4.out (by omega))
            have HRw5 := Lib.hid (hkp.is HRw4.out (by omega))
            have HBw5 := Lib.hid (HBw4.out.setRow (cB 16 (mxS f2311 F)))
            have HWw5 := Lib.hid (HWw4.out.trans (hkp.below.mono (by omega)))
            clear hkp HKw4 HRw4 HBw4 HWw4
            generalize hM : mxS f2311 F = M at *
            have HM : Hid (rround K r st = addS K r M) := by
              show rround K r st = addS K r M
              unfold rround
              rw [if_pos h14, HF.out, hM]
            clear hM
            have hk5 := Blk.load_row HKw5.out (P := Try.prog) (t := 46) Try.underlying46 rfl (by rw [cB_size]; kernel_rfl)
            have hb5 := Blk.load_row HBw5.out (P := Try.prog) (t := 37) Try.underlying37 rfl (by rw [cB_size]; kernel_rfl)
            go_wp2_with fail
            clear hk5 hb5 hsb
            generalize w4.setRow (g + 1) (cB 16 M) = w5 at *
            refine (added_calls K M r (by omega) w5).mono ?_
            rintro e w6 ⟨rfl, hB⟩
            have HKw6 := Lib.hid (HKw5.out.below hB HKw5.out.lt)
            have HBw6 := Lib.hid (HBw5.out.below hB HBw5.out.lt)
            have HRw6 := Lib.hid (HRw5.out.below hB HRw5.out.lt)
            have HWw6 := Lib.hid (HWw5.out.trans (hB.mono (by have := HKw5.out.lt; omega)))
            clear hB HKw5 HBw5 HRw5 HWw5
            have hsb := Blk.store_row (P := Try.prog) (t := 37) (cB 16 (addS K r M)) HBw6.out (by rw [cB_size]; kernel_rfl) (by rw [cB_size, cB_size]) (cB_one _ _)
            have hkp : Keeps (g + 1) w6 (w6.setRow (g + 1) (cB 16 (addS K r M))) := ⟨Blk.below_setRow (Below.refl _ _) (Nat.le_refl _) _, fun k _ hk => setRow_other w6 (g + 1) k _ hk⟩
            have HKw7 := Lib.hid (hkp.is HKw6.out (by omega))
            have HRw7 := Lib.hid (hkp.is HRw6.out (by omega))
            have HBw7 := Lib.hid (HBw6.out.setRow (cB 16 (addS K r M)))
            have HWw7 := Lib.hid (HWw6.out.trans (hkp.below.mono (by omega)))
            clear hkp HKw6 HRw6 HBw6 HWw6
            go_wp2_with fail
            go_roundw
            case rel =>
              refine ⟨r + 1, by omega, by go_num, by show 1 ≤ r + 1; omega, HKw7, ?_, HRw7, HWw7⟩
              rw [Nat.add_sub_cancel, ← HST.out, HM.out]
              exact HBw7
            case measure => simp [intOf]; omega
          · have hb' := Blk.load_row HBw3.out (P := Try.prog) (t := 37) Try.underlying37 rfl (by rw [cB_size]; kernel_rfl)
            have hk' := Blk.load_row HKw3.out (P := Try.prog) (t := 46) Try.underlying46 rfl (by rw [cB_size]; kernel_rfl)
            have HM : Hid (rround K r st = addS K r F) := by
              show rround K r st = addS K r F
              unfold rround
              rw [if_neg h14, HF.out]
            go_wp2_with fail
            clear hlt6 hb' hk' hsb HK3
            generalize wo2.setRow (g + 1) (cB 16 F) = w3 at *
            refine (added_calls K F r (by omega) w3).mono ?_
            rintro e w6 ⟨rfl, hB⟩
            have HKw6 := Lib.hid (HKw3.out.below hB HKw3.out.lt)
            have HBw6 := Lib.hid (HBw3.out.below hB HBw3.out.lt)
            have HRw6 := Lib.hid (HRw3.out.below hB HRw3.out.lt)
            have HWw6 := Lib.hid (HWw3.out.trans (hB.mono (by have := HKw3.out.lt; omega)))
            clear hB HKw3 HBw3 HRw3 HWw3
            have hsb := Blk.store_row (P := Try.prog) (t := 37) (cB 16 (addS K r F)) HBw6.out (by rw [cB_size]; kernel_rfl) (by rw [cB_size, cB_size]) (cB_one _ _)
            have hkp : Keeps (g + 1) w6 (w6.setRow (g + 1) (cB 16 (addS K r F))) := ⟨Blk.below_setRow (Below.refl _ _) (Nat.le_refl _) _, fun k _ hk => setRow_other w6 (g + 1) k _ hk⟩
            have HKw7 := Lib.hid (hkp.is HKw6.out (by omega))
            have HRw7 := Lib.hid (hkp.is HRw6.out (by omega))
            have HBw7 := Lib.hid (HBw6.out.setRow (cB 16 (addS K r F)))
            have HWw7 := Lib.hid (HWw6.out.trans (hkp.below.mono (by omega)))
            clear hkp HKw6 HRw6 HBw6 HWw6
            go_wp2_with fail
            go_roundw
            case rel =>
              refine ⟨r + 1, by omega, by go_num, by show 1 ≤ r + 1; omega, HKw7, ?_, HRw7, HWw7⟩
              rw [Nat.add_sub_cancel, ← HST.out, HM.out]
              exact HBw7
            case measure => simp [intOf]; omega
    · obtain rfl : r = 15 := by omega
      have HBE : Hid (Blk.Is wo (g + 1) (cB 16 (rbl K b 14)) 37) := HBa
      clear HBa
      have hlb := Blk.load_row HBE.out (P := Try.prog) (t := 37) Try.underlying37 rfl (by rw [cB_size]; kernel_rfl)
      have hsr := Blk.store_row (P := Try.prog) (t := 37) (cB 16 (rbl K b 14)) HRa.out (by rw [cB_size]; kernel_rfl) (by rw [cB_size, cB_size]) (cB_one _ _)
      have HR7 := Lib.hid (HRa.out.setRow (cB 16 (rbl K b 14)))
      have HW7 := Lib.hid (Blk.below_setRow HWa.out (show g ≤ g + 1 + 1 by omega) (cB 16 (rbl K b 14)))
      go_wp2_with fail
      refine bodyPost_ret (results_cell_row rfl _ _ (g + 1 + 1) 37 (cB 16 (rbl K b 14)) (0, 0) _ rfl HR7.out Try.underlying37 rfl (by rw [cB_size]; kernel_rfl)) rfl ?_
      exact ⟨rfl, by rw [HG.out]; exact HW7.out⟩
end Go.Proofs.Ytbebmbcjddibaaa.Aes
