/- What is said here: what the document's Expand makes of a key: the same cells. -/
import Derived.Test.YtbebmbcjddibaaaGc
namespace Go.Proofs.Ytbebmbcjddibaaa.Aes
set_option linter.unusedVariables false
set_option linter.unusedSimpArgs false
open Go.RowKit Go.Proofs.YtbebmbcjddibaaaW.PrintWords Go.Proofs.YtbebmbcjddibaaaW.PrintLast Go.Proofs.YtbebmbcjddibaaaW.PrintMore
open Gf Gfi Poly AesF
theorem ld31 (x : Value) : Instr.loadAt 46 x = Blk.ld 46 x := rfl
theorem st31 (x v : Value) : Instr.storeAt 46 x v = Blk.st 46 x v := rfl
attribute [local go_sem ↓] ld4 st4 ld31 st31
theorem zeroRef (w : World) : (zeroValue 46).run Try.prog w = .ok (.agg (cB 752 (fun _ => 0#8))) w := by kernel_rfl
def kk (i : Nat) : Nat → B := blend (blend key0 240 256 (subN i)) 496 256 (undoN i)
theorem kk_zero : kk 0 = key0 := by
  funext q
  unfold kk blend
  by_cases h1 : 496 ≤ q ∧ q < 496 + 256
  · rw [if_pos h1]; rfl
  · rw [if_neg h1]
    by_cases h2 : 240 ≤ q ∧ q < 240 + 256
    · rw [if_pos h2]; rfl
    · rw [if_neg h2]
theorem kk_next (i : Nat) (h : i < 256) : updB (updB (kk i) (240 + i) (sb (BitVec.ofNat 8 i))) (496 + (sb (BitVec.ofNat 8 i)).toNat) (BitVec.ofNat 8 i) = kk (i + 1) := by
  have hs := (sb (BitVec.ofNat 8 i)).isLt
  funext q
  unfold updB kk blend
  by_cases h1 : 496 ≤ q ∧ q < 496 + 256
  · rw [if_pos h1, if_pos h1]
    show _ = updB (undoN i) (sb (BitVec.ofNat 8 i)).toNat (BitVec.ofNat 8 i) (q - 496)
    unfold updB
    by_cases e : q = 496 + (sb (BitVec.ofNat 8 i)).toNat
    · rw [if_pos e, if_pos (by omega)]
    · rw [if_neg e, if_neg (by omega), if_neg (by omega)]
  · rw [if_neg h1, if_neg h1, if_neg (by omega)]
    by_cases h2 : 240 ≤ q ∧ q < 240 + 256
    · rw [if_pos h2, if_pos h2]
      show _ = updB (subN i) i (sb (BitVec.ofNat 8 i)) (q - 240)
      unfold updB
      by_cases e : q = 240 + i
      · rw [if_pos e, if_pos (by omega)]
      · rw [if_neg e, if_neg (by omega)]
    · rw [if_neg h2, if_neg h2, if_neg (by omega)]
theorem key2_low (q : Nat) (h : q < 240) : key2 q = 0#8 := by
  unfold key2 blend
  rw [if_neg (by omega), if_neg (by omega)]
  rfl
theorem word_low (key S : Nat → B) (i : Nat) (h : i ≤ 8) : wordN key S i = fun q => if q < 4 * i then key q else 0#8 := by
  induction i with
  | zero => funext q; rw [if_neg (by omega)]; rfl
  | succ i ih =>
    rw [wordN_low key S i (by omega), ih (by omega)]
    funext q
    unfold blend
    by_cases e1 : i * 4 ≤ q ∧ q < i * 4 + 4
    · rw [if_pos e1, if_pos (by omega)]
      show key (4 * i + (q - i * 4)) = _
      rw [show 4 * i + (q - i * 4) = q by omega]
    · rw [if_neg e1]
      show (if q < 4 * i then key q else 0#8) = _
      by_cases e2 : q < 4 * i
      · rw [if_pos e2, if_pos (by omega)]
      · rw [if_neg e2, if_neg (by omega)]
def rks (wn : Nat → B) : Nat → B := blend key2 0 240 wn
theorem rks8 (key S : Nat → B) : blend key2 0 32 key = rks (wordN key S 8) := by
  rw [word_low key S 8 (by omega)]
  funext q
  unfold rks blend
  by_cases e1 : 0 ≤ q ∧ q < 0 + 32
  · rw [if_pos e1, if_pos (by omega)]
    show _ = if q - 0 < 4 * 8 then key (q - 0) else 0#8
    rw [if_pos (by omega)]
  · rw [if_neg e1]
    by_cases e2 : 0 ≤ q ∧ q < 0 + 240
    · rw [if_pos e2, key2_low q (by omega)]
      show _ = if q - 0 < 4 * 8 then key (q - 0) else 0#8
      rw [if_neg (by omega)]
    · rw [if_neg e2]
theorem rks_get (wn : Nat → B) (q : Nat) (h : q < 240) : rks wn q = wn q := by
  unfold rks blend
  rw [if_pos (by omega), Nat.sub_zero]
theorem rks_sub (wn : Nat → B) (x : Nat) (h : x < 256) : rks wn (240 + x) = subN 256 x := by
  unfold rks blend
  rw [if_neg (by omega)]
  exact key2_sub x h
theorem rks_upd (wn : Nat → B) (p : Nat) (v : B) (h : p < 240) : updB (rks wn) p v = rks (updB wn p v) := by
  funext q
  unfold updB rks blend
  by_cases e : q = p
  · subst e
    rw [if_pos rfl, if_pos (by omega)]
    show v = if q - 0 = q then v else wn (q - 0)
    rw [if_pos (Nat.sub_zero q)]
  · rw [if_neg e]
    by_cases e2 : 0 ≤ q ∧ q < 0 + 240
    · rw [if_pos e2, if_pos e2]
      show _ = if q - 0 = p then v else wn (q - 0)
      rw [if_neg (by omega)]
    · rw [if_neg e2, if_neg e2]
theorem st_lit4_new (w : World) (a b c d : B) : (Blk.st 62 (.pointer (some ⟨w.heap.size, 0, none⟩)) (.agg #[.int .u8 (ofB a), .int .u8 (ofB b), .int .u8 (ofB c), .int .u8 (ofB d)])).run Try.prog (w.alloc (.cells #[.int .u8 0, .int .u8 0, .int .u8 0, .int .u8 0] 62)) = .ok () (w.alloc (.cells #[.int .u8 (ofB a), .int .u8 (ofB b), .int .u8 (ofB c), .int .u8 (ofB d)] 62)) := by
  rw [lit4]
  exact st4_new w _
theorem cell_alloc {w : World} {b i : Nat} {v : Value} {o : Obj} (h : w.cell? ⟨b, i, none⟩ = some v) (hb : b < w.heap.size) : (w.alloc o).cell? ⟨b, i, none⟩ = some v := by
  have e := Below.heap_alloc w o b hb
  simp only [World.cell?] at h ⊢
  rw [e]
  exact h
set_option maxRecDepth 100000 in
set_option maxHeartbeats 2000000 in
theorem rexpand_calls (key : Nat → B) (w : World) : Calls Try.prog 20 #[.agg (cB 32 key)] w fun e w' => e = .returned (.agg (cB 752 (keyK key))) ∧ Below w.heap.size w w' := by
  have hz0 : ∀ w : World, (zeroValue 46).run Try.prog w = .ok (.agg (cB 752 key0)) w := zeroRef
  have e1 : (w.alloc (.cells (cB 32 key) 22)).heap.size = w.heap.size + 1 := by simp
  have e2 : ((w.alloc (.cells (cB 32 key) 22)).alloc (.cells (cB 752 key0) 46)).heap.size = w.heap.size + 1 + 1 := by simp
  have HA0 := Lib.hid (((Blk.Is.new w (cB 32 key) 22).alloc (.cells (cB 752 key0) 46)).alloc (.cells (cB 752 key0) 46))
  have HR0 := Lib.hid ((Blk.Is.new (w.alloc (.cells (cB 32 key) 22)) (cB 752 key0) 46).alloc (.cells (cB 752 key0) 46))
  have HK0 := Lib.hid (Blk.Is.new ((w.alloc (.cells (cB 32 key) 22)).alloc (.cells (cB 752 key0) 46)) (cB 752 key0) 46)
  rw [e1] at HR0
  rw [e2] at HK0
  have HB0 := Lib.hid ((((Below.refl _ w).alloc (Nat.le_refl _) (.cells (cB 32 key) 22)).alloc (by omega) (.cells (cB 752 key0) 46)).alloc (by omega) (.cells (cB 752 key0) 46))
  clear e1 e2
  go_enter Try.func20, Try.ntmps20
  go_wp2_with fail
  clear hz0
  generalize ((w.alloc (.cells (cB 32 key) 22)).alloc (.cells (cB 752 key0) 46)).alloc (.cells (cB 752 key0) 46) = w0 at *
  generalize hg : w.heap.size = g at *
  have HG := Lib.hid hg
  clear hg
  go_loopw [4, 5, 10, 11, 12, 13, 14, 15, 16, 17, 18, 19, 20, 21, 22, 23, 24, 25] (fun v4 v5 v10 v11 v12 v13 v14 v15 v16 v17 v18 v19 v20 v21 v22 v23 v24 v25 wr => ∃ (i : Nat), i ≤ 256 ∧ v4 = .int .i64 (i : Int) ∧ Hid (Blk.Is wr g (cB 32 key) 22) ∧ Hid (Blk.Is wr (g + 1) (cB 752 key0) 46) ∧ Hid (Blk.Is wr (g + 1 + 1) (cB 752 (kk i)) 46) ∧ Hid (Below g w wr)) (fun v4 _ _ _ _ _ _ _ _ _ _ _ _ _ _ _ _ _ _ => 256 - (intOf v4).toNat)
  case atStart => exact ⟨0, by omega, rfl, HA0, HR0, by rw [kk_zero]; exact HK0, HB0⟩
  case round =>
    clear HA0 HR0 HK0 HB0
    obtain ⟨i, hi, rfl, HA, HR, HK, HB⟩ := hrel
    obtain ⟨wo, rfl⟩ : ∃ wo, wo = wr := ⟨_, rfl⟩
    by_cases hlt : i < 256
    · have hx : IntKind.u8.wrap (i : Int) = ofB (BitVec.ofNat 8 i) := by
        show (i : Int) % 256 = _
        unfold ofB
        rw [BitVec.toNat_ofNat]
        omega
      have HKN := Lib.hid (kk_next i hlt)
      have hfr := HK.out.free (240 + i)
      have hc0 : wo.cell? ⟨g + 1 + 1, 240 + i, none⟩ = some (.int .u8 (ofB (kk i (240 + i)))) := by rw [HK.out.cell]; exact cB_get 752 _ _ (by omega)
      go_wp2_with fail
      refine (sub_calls (BitVec.ofNat 8 i) wo).mono ?_
      rintro e w' ⟨rfl, ⟨nd, rfl⟩⟩
      have hc1 : (wo.drewN nd).cell? ⟨g + 1 + 1, 240 + i, none⟩ = some (.int .u8 (ofB (kk i (240 + i)))) := hc0
      have hfr1 : (wo.drewN nd).frozen? ⟨g + 1 + 1, 240 + i, none⟩ = false := hfr
      have HA1 := Lib.hid (HA.out.drewN nd)
      have HR1 := Lib.hid (HR.out.drewN nd)
      have HK1 := Lib.hid (HK.out.drewN nd)
      have HB1 := Lib.hid (pw_below_drewN HB.out nd)
      clear HA HR HK HB hc0 hfr
      generalize wo.drewN nd = w1 at *
      generalize hs : sb (BitVec.ofNat 8 i) = s at *
      have hs1 := s.isLt
      have e : (ofB s).toNat = s.toNat := by simp [ofB]
      have hk2 := HK1.out.set (240 + i) (.int .u8 (ofB s))
      rw [cB_set] at hk2
      have HK2 := Lib.hid hk2
      have hc2 : (w1.setCell ⟨g + 1 + 1, 240 + i, none⟩ (.int .u8 (ofB s))).cell? ⟨g + 1 + 1, 496 + (ofB s).toNat, none⟩ = some (.int .u8 (ofB (updB (kk i) (240 + i) s (496 + s.toNat)))) := by
        rw [e, HK2.out.cell]; exact cB_get 752 _ _ (by omega)
      have hf2 := HK2.out.free (496 + (ofB s).toNat)
      have hr1 := (ofB_range s).1
      have hr2 := (ofB_range s).2
      clear hk2 hs1 e
      generalize updB (kk i) (240 + i) s (496 + s.toNat) = cc at *
      generalize kk i (240 + i) = cc1 at *
      go_wp2_with fail
      have e : (ofB s).toNat = s.toNat := by simp [ofB]
      go_roundw
      case rel =>
        refine ⟨i + 1, by omega, by go_num, (HA1.out.other (by simp; omega) _).other (by simp; omega) _, (HR1.out.other (by simp) _).other (by simp) _, ?_, (HB1.out.setCell (by show g ≤ g + 1 + 1; omega) _).setCell (by show g ≤ g + 1 + 1; omega) _⟩
        have h := HK2.out.set (496 + (ofB s).toNat) (.int .u8 (ofB (BitVec.ofNat 8 i)))
        rw [cB_set, e, HKN.out] at h
        rw [e]
        exact h
      case measure => simp [intOf]; omega
    · obtain rfl : i = 256 := by omega
      have HK0 : Hid (Blk.Is wo (g + 1 + 1) (cB 752 (blend key2 0 0 key)) 46) := by rw [blend_zero]; exact HK.out
      clear HK
      go_wp2_with fail
      generalize ((256 : Nat) : Int) = c256
      go_loopw [6, 26, 27, 28, 29, 30, 31, 32, 33, 34, 35] (fun v6 v26 v27 v28 v29 v30 v31 v32 v33 v34 v35 wl => ∃ (i : Nat), i ≤ 32 ∧ v6 = .int .i64 (i : Int) ∧ Hid (Blk.Is wl g (cB 32 key) 22) ∧ Hid (Blk.Is wl (g + 1) (cB 752 key0) 46) ∧ Hid (Blk.Is wl (g + 1 + 1) (cB 752 (blend key2 0 i key)) 46) ∧ Hid (Below g w wl)) (fun v6 _ _ _ _ _ _ _ _ _ _ _ => 32 - (intOf v6).toNat)
      case atStart => exact ⟨0, by omega, rfl, HA, HR, HK0, HB⟩
      case round =>
        clear HA HR HK0 HB
        obtain ⟨i, hi, rfl, HA, HR, HK, HB⟩ := hrel
        by_cases hlt : i < 32
        · have hca : wr.cell? ⟨g, i, none⟩ = some (.int .u8 (ofB (key i))) := by rw [HA.out.cell]; exact cB_get 32 key i hlt
          have hck : wr.cell? ⟨g + 1 + 1, i, none⟩ = some (.int .u8 (ofB (blend key2 0 i key i))) := by rw [HK.out.cell]; exact cB_get 752 _ i (by omega)
          have hfk := HK.out.free i
          generalize blend key2 0 i key i = cc at *
          go_wp2_with fail
          go_roundw
          case rel =>
            refine ⟨i + 1, by omega, by go_num, HA.out.other (by simp; omega) _, HR.out.other (by simp) _, ?_, HB.out.setCell (by show g ≤ g + 1 + 1; omega) _⟩
            have h := HK.out.set i (.int .u8 (ofB (key i)))
            have e := blend_next key2 key 0 i
            rw [Nat.zero_add] at e
            rw [cB_set, e] at h
            exact h
          case measure => simp [intOf]; omega
        · obtain rfl : i = 32 := by omega
          have HK8 : Hid (Blk.Is wr (g + 1 + 1) (cB 752 (rks (wordN key (subN 256) 8))) 46) := by rw [← rks8]; exact HK.out
          clear HK
          go_wp2_with fail
          generalize ((32 : Nat) : Int) = c32
          go_loopw [7, 8, 9, 36, 37, 38, 39, 40, 41, 42, 43, 44, 45, 46, 47, 48, 49, 50, 51, 52, 53, 54, 55, 56, 57, 58, 59, 60, 61, 62, 63, 64, 65, 66, 67, 68, 69, 70, 71, 72, 73, 74, 75, 76, 77, 78, 79, 80, 81, 82, 83, 84, 85, 86, 87, 88, 89, 90, 91, 92, 93, 94, 95, 96, 97, 98, 99, 100, 101, 102, 103, 104, 105, 106, 107, 108, 109, 110, 111, 112, 113, 114, 115, 116, 117, 118, 119, 120, 121, 122, 123, 124, 125, 126, 127, 128, 129, 130, 131, 132, 133, 134, 135, 136, 137, 138, 139] (fun v7 v8 v9 v36 v37 v38 v39 v40 v41 v42 v43 v44 v45 v46 v47 v48 v49 v50 v51 v52 v53 v54 v55 v56 v57 v58 v59 v60 v61 v62 v63 v64 v65 v66 v67 v68 v69 v70 v71 v72 v73 v74 v75 v76 v77 v78 v79 v80 v81 v82 v83 v84 v85 v86 v87 v88 v89 v90 v91 v92 v93 v94 v95 v96 v97 v98 v99 v100 v101 v102 v103 v104 v105 v106 v107 v108 v109 v110 v111 v112 v113 v114 v115 v116 v117 v118 v119 v120 v121 v122 v123 v124 v125 v126 v127 v128 v129 v130 v131 v132 v133 v134 v135 v136 v137 v138 v139 wl => ∃ (i : Nat), i ≤ 60 ∧ v7 = .int .i64 (i : Int) ∧ Hid (8 ≤ i) ∧ Hid (Blk.Is wl (g + 1) (cB 752 key0) 46) ∧ Hid (Blk.Is wl (g + 1 + 1) (cB 752 (rks (wordN key (subN 256) i))) 46) ∧ Hid (Below g w wl)) (fun v7 _ _ _ _ _ _ _ _ _ _ _ _ _ _ _ _ _ _ _ _ _ _ _ _ _ _ _ _ _ _ _ _ _ _ _ _ _ _ _ _ _ _ _ _ _ _ _ _ _ _ _ _ _ _ _ _ _ _ _ _ _ _ _ _ _ _ _ _ _ _ _ _ _ _ _ _ _ _ _ _ _ _ _ _ _ _ _ _ _ _ _ _ _ _ _ _ _ _ _ _ _ _ _ _ _ _ _ => 60 - (intOf v7).toNat)
          case atStart => exact ⟨8, by omega, rfl, Nat.le_refl 8, HR, HK8, HB⟩
          case round =>
            clear HA HR HK8 HB
            obtain ⟨i, hi, rfl, HI8, HR, HK, HB⟩ := hrel
            obtain ⟨wo, rfl⟩ : ∃ wo, wo = wr := ⟨_, rfl⟩
            by_cases hlt : i < 60
            · have hi8 := HI8.out
              generalize hwn : wordN key (subN 256) i = wn at *
              have HWN := Lib.hid hwn
              clear hwn
              -- round
              obtain ⟨tf, htf⟩ : ∃ tf : Nat → B, ∀ q, tf q = wn ((i - 1) * 4 + q) := ⟨_, fun _ => rfl⟩
              have HTF := Lib.hid htf
              clear htf
              obtain ⟨m, hm⟩ : ∃ m : Nat, m = 4 * i := ⟨_, rfl⟩
              obtain ⟨p0, hp0⟩ : ∃ p0 : Nat, p0 = m - 4 := ⟨_, rfl⟩
              obtain ⟨p1, hp1⟩ : ∃ p1 : Nat, p1 = m - 3 := ⟨_, rfl⟩
              obtain ⟨p2, hp2⟩ : ∃ p2 : Nat, p2 = m - 2 := ⟨_, rfl⟩
              obtain ⟨p3, hp3⟩ : ∃ p3 : Nat, p3 = m - 1 := ⟨_, rfl⟩
              have wm : IntKind.i64.wrap (4 * (i : Int)) = (m : Int) := by rw [IntWalk.i64_in _ (by omega)]; omega
              have w0f : IntKind.i64.wrap ((m : Int) - 4) = (p0 : Int) := by rw [IntWalk.i64_in _ (by omega)]; omega
              have w1f : IntKind.i64.wrap ((m : Int) - 3) = (p1 : Int) := by rw [IntWalk.i64_in _ (by omega)]; omega
              have w2f : IntKind.i64.wrap ((m : Int) - 2) = (p2 : Int) := by rw [IntWalk.i64_in _ (by omega)]; omega
              have w3f : IntKind.i64.wrap ((m : Int) - 1) = (p3 : Int) := by rw [IntWalk.i64_in _ (by omega)]; omega
              have b0 : (p0 : Int) < 240 := by omega
              have b1 : (p1 : Int) < 240 := by omega
              have b2 : (p2 : Int) < 240 := by omega
              have b3 : (p3 : Int) < 240 := by omega
              have HF : Hid (wo.cell? ⟨g + 1 + 1, p0, none⟩ = some (.int .u8 (ofB (tf 0))) ∧ wo.cell? ⟨g + 1 + 1, p1, none⟩ = some (.int .u8 (ofB (tf 1))) ∧ wo.cell? ⟨g + 1 + 1, p2, none⟩ = some (.int .u8 (ofB (tf 2))) ∧ wo.cell? ⟨g + 1 + 1, p3, none⟩ = some (.int .u8 (ofB (tf 3)))) := by
                refine ⟨?_, ?_, ?_, ?_⟩
                · rw [HK.out.cell, cB_get 752 _ _ (by omega), rks_get wn _ (by omega), HTF.out, show p0 = (i - 1) * 4 + 0 by omega]
                · rw [HK.out.cell, cB_get 752 _ _ (by omega), rks_get wn _ (by omega), HTF.out, show p1 = (i - 1) * 4 + 1 by omega]
                · rw [HK.out.cell, cB_get 752 _ _ (by omega), rks_get wn _ (by omega), HTF.out, show p2 = (i - 1) * 4 + 2 by omega]
                · rw [HK.out.cell, cB_get 752 _ _ (by omega), rks_get wn _ (by omega), HTF.out, show p3 = (i - 1) * 4 + 3 by omega]
              have HM := Lib.hid hm
              clear hm hp0 hp1 hp2 hp3
              go_wp2_with fail
              refine start_ (n := 27) (S := fun w' => w'.cell? ⟨g + 1 + 1, p0, none⟩ = some (.int .u8 (ofB (tf 0))) ∧ w'.cell? ⟨g + 1 + 1, p1, none⟩ = some (.int .u8 (ofB (tf 1))) ∧ w'.cell? ⟨g + 1 + 1, p2, none⟩ = some (.int .u8 (ofB (tf 2))) ∧ w'.cell? ⟨g + 1 + 1, p3, none⟩ = some (.int .u8 (ofB (tf 3)))) (ds := [26]) #[false, false, false, false, false, false, false, false, false, false, false, false, false, false, false, false, false, false, false, false, false, false, false, false, false, false, false] (by kernel_rfl) rfl rfl ⟨(HF.out.1), (HF.out.2.1), (HF.out.2.2.1), (HF.out.2.2.2)⟩ (fun hHeld => ?_)
              have HR2 := Lib.hid HR.out.drew
              have HK2 := Lib.hid HK.out.drew
              have HB2 := Lib.hid (HB.out.drew)
              have HF2 : Hid (wo.drew.cell? ⟨g + 1 + 1, p0, none⟩ = some (.int .u8 (ofB (tf 0))) ∧ wo.drew.cell? ⟨g + 1 + 1, p1, none⟩ = some (.int .u8 (ofB (tf 1))) ∧ wo.drew.cell? ⟨g + 1 + 1, p2, none⟩ = some (.int .u8 (ofB (tf 2))) ∧ wo.drew.cell? ⟨g + 1 + 1, p3, none⟩ = some (.int .u8 (ofB (tf 3)))) := HF.out
              have HN2 : Hid (g + 1 + 1 < wo.drew.heap.size) := HK.out.lt
              clear HR HK HB HF
              generalize wo.drew = w2 at *
              refine pure_ (i := 0) (N := some 40) (v := ?_) (a' := ?_) #[true, false, false, false, false, false, false, false, false, false, false, false, false, false, false, false, false, false, false, false, false, false, false, false, false, false, false] rfl rfl (by kernel_rfl) (fun _ _ _ h => h) (Or.inl ⟨by rfl, ?_⟩) ?_ ?_
              rotate_left
              · intro w'
                go_simp
                with_reducible rfl
              rotate_left
              · simp only [Act.put, List.setIfInBounds_toArray, List.set_cons_zero, List.set_cons_succ, i64_w, i32_w]
                rfl
              refine pure_ (i := 1) (N := some 41) (v := ?_) (a' := ?_) #[true, true, false, false, false, false, false, false, false, false, false, false, false, false, false, false, false, false, false, false, false, false, false, false, false, false, false] rfl rfl (by kernel_rfl) (fun _ _ _ h => h) (Or.inl ⟨by rfl, ?_⟩) ?_ ?_
              rotate_left
              · intro w'
                go_simp
                with_reducible rfl
              rotate_left
              · simp only [Act.put, List.setIfInBounds_toArray, List.set_cons_zero, List.set_cons_succ, i64_w, i32_w]
                rfl
              refine pure_ (i := 2) (N := some 42) (v := ?_) (a' := ?_) #[true, true, true, false, false, false, false, false, false, false, false, false, false, false, false, false, false, false, false, false, false, false, false, false, false, false, false] rfl rfl (by kernel_rfl) (fun _ _ _ h => h) (Or.inl ⟨by rfl, ?_⟩) ?_ ?_
              rotate_left
              · intro w'
                go_simp
                with_reducible rfl
              rotate_left
              · simp only [Act.put, List.setIfInBounds_toArray, List.set_cons_zero, List.set_cons_succ, i64_w, i32_w]
                rfl
              refine pure_ (i := 3) (N := some 43) (v := ?_) (a' := ?_) #[true, true, true, true, false, false, false, false, false, false, false, false, false, false, false, false, false, false, false, false, false, false, false, false, false, false, false] rfl rfl (by kernel_rfl) (fun _ _ _ h => h) (Or.inl ⟨by rfl, ?_⟩) ?_ ?_
              rotate_left
              · intro w'
                go_simp
                with_reducible rfl
              rotate_left
              · simp only [Act.put, List.setIfInBounds_toArray, List.set_cons_zero, List.set_cons_succ, i64_w, i32_w]
                rfl
              refine pure_ (i := 4) (N := some 44) (v := ?_) (a' := ?_) #[true, true, true, true, true, false, false, false, false, false, false, false, false, false, false, false, false, false, false, false, false, false, false, false, false, false, false] rfl rfl (by kernel_rfl) (fun _ _ _ h => h) (Or.inl ⟨by rfl, ?_⟩) ?_ ?_
              rotate_left
              · intro w'
                go_simp
                with_reducible rfl
              rotate_left
              · simp only [Act.put, List.setIfInBounds_toArray, List.set_cons_zero, List.set_cons_succ, i64_w, i32_w]
                rfl
              refine pure_ (i := 6) (N := some 46) (v := ?_) (a' := ?_) #[true, true, true, true, true, false, true, false, false, false, false, false, false, false, false, false, false, false, false, false, false, false, false, false, false, false, false] rfl rfl (by kernel_rfl) (fun _ _ _ h => h) (Or.inl ⟨by rfl, ?_⟩) ?_ ?_
              rotate_left
              · intro w'
                go_simp
                with_reducible rfl
              rotate_left
              · simp only [Act.put, List.setIfInBounds_toArray, List.set_cons_zero, List.set_cons_succ, i64_w, i32_w]
                rfl
              refine pure_ (i := 7) (N := some 47) (v := ?_) (a' := ?_) #[true, true, true, true, true, false, true, true, false, false, false, false, false, false, false, false, false, false, false, false, false, false, false, false, false, false, false] rfl rfl (by kernel_rfl) (fun _ _ _ h => h) (Or.inl ⟨by rfl, ?_⟩) ?_ ?_
              rotate_left
              · intro w'
                go_simp
                with_reducible rfl
              rotate_left
              · simp only [Act.put, List.setIfInBounds_toArray, List.set_cons_zero, List.set_cons_succ, i64_w, i32_w]
                rfl
              refine pure_ (i := 8) (N := some 48) (v := ?_) (a' := ?_) #[true, true, true, true, true, false, true, true, true, false, false, false, false, false, false, false, false, false, false, false, false, false, false, false, false, false, false] rfl rfl (by kernel_rfl) (fun _ _ _ h => h) (Or.inl ⟨by rfl, ?_⟩) ?_ ?_
              rotate_left
              · intro w'
                go_simp
                with_reducible rfl
              rotate_left
              · simp only [Act.put, List.setIfInBounds_toArray, List.set_cons_zero, List.set_cons_succ, i64_w, i32_w]
                rfl
              refine pure_ (i := 9) (N := some 49) (v := ?_) (a' := ?_) #[true, true, true, true, true, false, true, true, true, true, false, false, false, false, false, false, false, false, false, false, false, false, false, false, false, false, false] rfl rfl (by kernel_rfl) (fun _ _ _ h => h) (Or.inl ⟨by rfl, ?_⟩) ?_ ?_
              rotate_left
              · intro w'
                go_simp
                with_reducible rfl
              rotate_left
              · simp only [Act.put, List.setIfInBounds_toArray, List.set_cons_zero, List.set_cons_succ, i64_w, i32_w]
                rfl
              refine pure_ (i := 10) (N := some 50) (v := ?_) (a' := ?_) #[true, true, true, true, true, false, true, true, true, true, true, false, false, false, false, false, false, false, false, false, false, false, false, false, false, false, false] rfl rfl (by kernel_rfl) (fun _ _ _ h => h) (Or.inl ⟨by rfl, ?_⟩) ?_ ?_
              rotate_left
              · intro w'
                go_simp
                with_reducible rfl
              rotate_left
              · simp only [Act.put, List.setIfInBounds_toArray, List.set_cons_zero, List.set_cons_succ, i64_w, i32_w]
                rfl
              refine pure_ (i := 12) (N := some 52) (v := ?_) (a' := ?_) #[true, true, true, true, true, false, true, true, true, true, true, false, true, false, false, false, false, false, false, false, false, false, false, false, false, false, false] rfl rfl (by kernel_rfl) (fun _ _ _ h => h) (Or.inl ⟨by rfl, ?_⟩) ?_ ?_
              rotate_left
              · intro w'
                go_simp
                with_reducible rfl
              rotate_left
              · simp only [Act.put, List.setIfInBounds_toArray, List.set_cons_zero, List.set_cons_succ, i64_w, i32_w]
                rfl
              refine pure_ (i := 13) (N := some 53) (v := ?_) (a' := ?_) #[true, true, true, true, true, false, true, true, true, true, true, false, true, true, false, false, false, false, false, false, false, false, false, false, false, false, false] rfl rfl (by kernel_rfl) (fun _ _ _ h => h) (Or.inl ⟨by rfl, ?_⟩) ?_ ?_
              rotate_left
              · intro w'
                go_simp
                with_reducible rfl
              rotate_left
              · simp only [Act.put, List.setIfInBounds_toArray, List.set_cons_zero, List.set_cons_succ, i64_w, i32_w]
                rfl
              refine pure_ (i := 14) (N := some 54) (v := ?_) (a' := ?_) #[true, true, true, true, true, false, true, true, true, true, true, false, true, true, true, false, false, false, false, false, false, false, false, false, false, false, false] rfl rfl (by kernel_rfl) (fun _ _ _ h => h) (Or.inl ⟨by rfl, ?_⟩) ?_ ?_
              rotate_left
              · intro w'
                go_simp
                with_reducible rfl
              rotate_left
              · simp only [Act.put, List.setIfInBounds_toArray, List.set_cons_zero, List.set_cons_succ, i64_w, i32_w]
                rfl
              refine pure_ (i := 15) (N := some 55) (v := ?_) (a' := ?_) #[true, true, true, true, true, false, true, true, true, true, true, false, true, true, true, true, false, false, false, false, false, false, false, false, false, false, false] rfl rfl (by kernel_rfl) (fun _ _ _ h => h) (Or.inl ⟨by rfl, ?_⟩) ?_ ?_
              rotate_left
              · intro w'
                go_simp
                with_reducible rfl
              rotate_left
              · simp only [Act.put, List.setIfInBounds_toArray, List.set_cons_zero, List.set_cons_succ, i64_w, i32_w]
                rfl
              refine pure_ (i := 16) (N := some 56) (v := ?_) (a' := ?_) #[true, true, true, true, true, false, true, true, true, true, true, false, true, true, true, true, true, false, false, false, false, false, false, false, false, false, false] rfl rfl (by kernel_rfl) (fun _ _ _ h => h) (Or.inl ⟨by rfl, ?_⟩) ?_ ?_
              rotate_left
              · intro w'
                go_simp
                with_reducible rfl
              rotate_left
              · simp only [Act.put, List.setIfInBounds_toArray, List.set_cons_zero, List.set_cons_succ, i64_w, i32_w]
                rfl
              refine pure_ (i := 18) (N := some 58) (v := ?_) (a' := ?_) #[true, true, true, true, true, false, true, true, true, true, true, false, true, true, true, true, true, false, true, false, false, false, false, false, false, false, false] rfl rfl (by kernel_rfl) (fun _ _ _ h => h) (Or.inl ⟨by rfl, ?_⟩) ?_ ?_
              rotate_left
              · intro w'
                go_simp
                with_reducible rfl
              rotate_left
              · simp only [Act.put, List.setIfInBounds_toArray, List.set_cons_zero, List.set_cons_succ, i64_w, i32_w]
                rfl
              refine pure_ (i := 19) (N := some 59) (v := ?_) (a' := ?_) #[true, true, true, true, true, false, true, true, true, true, true, false, true, true, true, true, true, false, true, true, false, false, false, false, false, false, false] rfl rfl (by kernel_rfl) (fun _ _ _ h => h) (Or.inl ⟨by rfl, ?_⟩) ?_ ?_
              rotate_left
              · intro w'
                go_simp
                with_reducible rfl
              rotate_left
              · simp only [Act.put, List.setIfInBounds_toArray, List.set_cons_zero, List.set_cons_succ, i64_w, i32_w]
                rfl
              refine pure_ (i := 20) (N := some 60) (v := ?_) (a' := ?_) #[true, true, true, true, true, false, true, true, true, true, true, false, true, true, true, true, true, false, true, true, true, false, false, false, false, false, false] rfl rfl (by kernel_rfl) (fun _ _ _ h => h) (Or.inl ⟨by rfl, ?_⟩) ?_ ?_
              rotate_left
              · intro w'
                go_simp
                with_reducible rfl
              rotate_left
              · simp only [Act.put, List.setIfInBounds_toArray, List.set_cons_zero, List.set_cons_succ, i64_w, i32_w]
                rfl
              refine pure_ (i := 21) (N := some 61) (v := ?_) (a' := ?_) #[true, true, true, true, true, false, true, true, true, true, true, false, true, true, true, true, true, false, true, true, true, true, false, false, false, false, false] rfl rfl (by kernel_rfl) (fun _ _ _ h => h) (Or.inl ⟨by rfl, ?_⟩) ?_ ?_
              rotate_left
              · intro w'
                go_simp
                with_reducible rfl
              rotate_left
              · simp only [Act.put, List.setIfInBounds_toArray, List.set_cons_zero, List.set_cons_succ, i64_w, i32_w]
                rfl
              refine pure_ (i := 22) (N := some 62) (v := ?_) (a' := ?_) #[true, true, true, true, true, false, true, true, true, true, true, false, true, true, true, true, true, false, true, true, true, true, true, false, false, false, false] rfl rfl (by kernel_rfl) (fun _ _ _ h => h) (Or.inl ⟨by rfl, ?_⟩) ?_ ?_
              rotate_left
              · intro w'
                go_simp
                with_reducible rfl
              rotate_left
              · simp only [Act.put, List.setIfInBounds_toArray, List.set_cons_zero, List.set_cons_succ, i64_w, i32_w]
                rfl
              refine take_ (i := 5) (N := some 45) (v := ?_) (a' := ?_) #[true, true, true, true, true, true, true, true, true, true, true, false, true, true, true, true, true, false, true, true, true, true, true, false, false, false, false] rfl rfl (by kernel_rfl) (fun _ _ _ h => h) (Or.inl ⟨by rfl, ?_⟩) hHeld ?_ ?_
              rotate_left
              · rintro w' ⟨s0, s1, s2, s3⟩
                go_simp
                with_reducible rfl
              rotate_left
              · simp only [Act.put, List.setIfInBounds_toArray, List.set_cons_zero, List.set_cons_succ, i64_w, i32_w]
                rfl
              refine take_ (i := 11) (N := some 51) (v := ?_) (a' := ?_) #[true, true, true, true, true, true, true, true, true, true, true, true, true, true, true, true, true, false, true, true, true, true, true, false, false, false, false] rfl rfl (by kernel_rfl) (fun _ _ _ h => h) (Or.inl ⟨by rfl, ?_⟩) hHeld ?_ ?_
              rotate_left
              · rintro w' ⟨s0, s1, s2, s3⟩
                go_simp
                with_reducible rfl
              rotate_left
              · simp only [Act.put, List.setIfInBounds_toArray, List.set_cons_zero, List.set_cons_succ, i64_w, i32_w]
                rfl
              refine take_ (i := 17) (N := some 57) (v := ?_) (a' := ?_) #[true, true, true, true, true, true, true, true, true, true, true, true, true, true, true, true, true, true, true, true, true, true, true, false, false, false, false] rfl rfl (by kernel_rfl) (fun _ _ _ h => h) (Or.inl ⟨by rfl, ?_⟩) hHeld ?_ ?_
              rotate_left
              · rintro w' ⟨s0, s1, s2, s3⟩
                go_simp
                with_reducible rfl
              rotate_left
              · simp only [Act.put, List.setIfInBounds_toArray, List.set_cons_zero, List.set_cons_succ, i64_w, i32_w]
                rfl
              refine take_ (i := 23) (N := some 63) (v := ?_) (a' := ?_) #[true, true, true, true, true, true, true, true, true, true, true, true, true, true, true, true, true, true, true, true, true, true, true, true, false, false, false] rfl rfl (by kernel_rfl) (fun _ _ _ h => h) (Or.inl ⟨by rfl, ?_⟩) hHeld ?_ ?_
              rotate_left
              · rintro w' ⟨s0, s1, s2, s3⟩
                go_simp
                with_reducible rfl
              rotate_left
              · simp only [Act.put, List.setIfInBounds_toArray, List.set_cons_zero, List.set_cons_succ, i64_w, i32_w]
                rfl
              refine pure_ (i := 24) (N := some 64) (v := ?_) (a' := ?_) #[true, true, true, true, true, true, true, true, true, true, true, true, true, true, true, true, true, true, true, true, true, true, true, true, true, false, false] rfl rfl (by kernel_rfl) (fun _ _ _ h => h) (Or.inl ⟨by rfl, ?_⟩) ?_ ?_
              rotate_left
              · intro w'
                go_simp
                with_reducible rfl
              rotate_left
              · simp only [Act.put, List.setIfInBounds_toArray, List.set_cons_zero, List.set_cons_succ, i64_w, i32_w]
                rfl
              refine one_ (i := 25) (N := some 8) #[true, true, true, true, true, true, true, true, true, true, true, true, true, true, true, true, true, true, true, true, true, true, true, true, true, true, false] rfl rfl (by kernel_rfl) (by decide) (fun K hK => ?_)
              refine value_ (w1 := ?_) (v := ?_) (by rfl) rfl ?_ ?_
              rotate_left 2
              · go_simp
                constructor
                · rfl
                · rfl
              have hst := st_lit4_new w2 (tf 0) (tf 1) (tf 2) (tf 3)
              have HF3 : Hid ((w2.alloc (.cells #[.int .u8 0, .int .u8 0, .int .u8 0, .int .u8 0] 62)).cell? ⟨g + 1 + 1, p0, none⟩ = some (.int .u8 (ofB (tf 0))) ∧ (w2.alloc (.cells #[.int .u8 0, .int .u8 0, .int .u8 0, .int .u8 0] 62)).cell? ⟨g + 1 + 1, p1, none⟩ = some (.int .u8 (ofB (tf 1))) ∧ (w2.alloc (.cells #[.int .u8 0, .int .u8 0, .int .u8 0, .int .u8 0] 62)).cell? ⟨g + 1 + 1, p2, none⟩ = some (.int .u8 (ofB (tf 2))) ∧ (w2.alloc (.cells #[.int .u8 0, .int .u8 0, .int .u8 0, .int .u8 0] 62)).cell? ⟨g + 1 + 1, p3, none⟩ = some (.int .u8 (ofB (tf 3)))) := ⟨(cell_alloc (HF2.out.1) HN2.out), (cell_alloc (HF2.out.2.1) HN2.out), (cell_alloc (HF2.out.2.2.1) HN2.out), (cell_alloc (HF2.out.2.2.2) HN2.out)⟩
              refine hK.out _ _ ⟨(HF3.out.1), (HF3.out.2.1), (HF3.out.2.2.1), (HF3.out.2.2.2)⟩ (fun hHeld => ?_)
              clear hK K
              refine norm_ (a' := ?_) ?_ ?_
              rotate_left
              · show Act.put _ (some 8) _ = _
                simp only [Act.put, List.setIfInBounds_toArray, List.set_cons_zero, List.set_cons_succ, i64_w, i32_w]
                rfl
              refine last_ (i := 26) (N := none) #[true, true, true, true, true, true, true, true, true, true, true, true, true, true, true, true, true, true, true, true, true, true, true, true, true, true, true] rfl rfl (by kernel_rfl) (by decide) (fun K hK => ?_)
              refine skip_ (w1 := ?_) (by rfl) rfl ?_ ?_
              rotate_left
              · go_simp
                rfl
              refine hK.out _ _ ?_
              clear hK K
              refine done_ (by kernel_rfl) ?_
              clear hst HF2 HF3 w0f w1f w2f w3f b0 b1 b2 b3 wm
              have HR3 := Lib.hid (HR2.out.alloc (.cells #[.int .u8 (ofB (tf 0)), .int .u8 (ofB (tf 1)), .int .u8 (ofB (tf 2)), .int .u8 (ofB (tf 3))] 62))
              have HK3 := Lib.hid (HK2.out.alloc (.cells #[.int .u8 (ofB (tf 0)), .int .u8 (ofB (tf 1)), .int .u8 (ofB (tf 2)), .int .u8 (ofB (tf 3))] 62))
              have HB3 := Lib.hid (HB2.out.alloc (by have := HN2.out; omega) (.cells #[.int .u8 (ofB (tf 0)), .int .u8 (ofB (tf 1)), .int .u8 (ofB (tf 2)), .int .u8 (ofB (tf 3))] 62))
              have HT3 : Hid (Blk.Is (w2.alloc (.cells #[.int .u8 (ofB (tf 0)), .int .u8 (ofB (tf 1)), .int .u8 (ofB (tf 2)), .int .u8 (ofB (tf 3))] 62)) w2.heap.size (cB 4 tf) 62) := by
                have h := Blk.Is.new w2 #[.int .u8 (ofB (tf 0)), .int .u8 (ofB (tf 1)), .int .u8 (ofB (tf 2)), .int .u8 (ofB (tf 3))] 62
                exact h
              clear HR2 HK2 HB2
              generalize w2.alloc (.cells #[.int .u8 (ofB (tf 0)), .int .u8 (ofB (tf 1)), .int .u8 (ofB (tf 2)), .int .u8 (ofB (tf 3))] 62) = w5 at *
              generalize w2.heap.size = gt at *
              have HGT : Hid (g + 1 + 1 < gt) := HN2.out
              clear HN2
              by_cases h80 : i % 8 = 0
              · have htm : Int.tmod (i : Int) 8 = 0 := by rw [Int.tmod_eq_emod_of_nonneg (by omega)]; omega
                have hsub : ∀ q, w5.cell? ⟨g + 1 + 1, 240 + (ofB (tf q)).toNat, none⟩ = some (.int .u8 (ofB (subN 256 (tf q).toNat))) := fun q => by
                  have e : (ofB (tf q)).toNat = (tf q).toNat := by simp [ofB]
                  rw [HK3.out.cell, e, cB_get 752 _ _ (by have := (tf q).isLt; omega), rks_sub wn _ (tf q).isLt]
                have HS := Lib.hid hsub
                clear hsub
                have c0 : w5.cell? ⟨gt, 0, none⟩ = some (.int .u8 (ofB (tf 0))) := by rw [HT3.out.cell, cB_get 4 tf 0 (by decide)]
                have d0 := HS.out 0
                have l0 := (ofB_range (tf 0)).1
                have m0 := (ofB_range (tf 0)).2
                have c1 : w5.cell? ⟨gt, 1, none⟩ = some (.int .u8 (ofB (tf 1))) := by rw [HT3.out.cell, cB_get 4 tf 1 (by decide)]
                have d1 := HS.out 1
                have l1 := (ofB_range (tf 1)).1
                have m1 := (ofB_range (tf 1)).2
                have c2 : w5.cell? ⟨gt, 2, none⟩ = some (.int .u8 (ofB (tf 2))) := by rw [HT3.out.cell, cB_get 4 tf 2 (by decide)]
                have d2 := HS.out 2
                have l2 := (ofB_range (tf 2)).1
                have m2 := (ofB_range (tf 2)).2
                have c3 : w5.cell? ⟨gt, 3, none⟩ = some (.int .u8 (ofB (tf 3))) := by rw [HT3.out.cell, cB_get 4 tf 3 (by decide)]
                have d3 := HS.out 3
                have l3 := (ofB_range (tf 3)).1
                have m3 := (ofB_range (tf 3)).2
                obtain ⟨n, hn⟩ : ∃ n : Nat, n = i / 8 - 1 := ⟨_, rfl⟩
                obtain ⟨z, hz⟩ : ∃ z : Nat, z = i / 8 := ⟨_, rfl⟩
                have hn7 : n < 7 := by omega
                have htd : Int.tdiv (i : Int) 8 = (z : Int) := by rw [Int.tdiv_eq_ediv_of_nonneg (by omega)]; omega
                have wz0 : IntKind.i64.wrap (z : Int) = (z : Int) := IntWalk.i64_in _ (by omega)
                have wz : IntKind.i64.wrap ((z : Int) - 1) = (n : Int) := by rw [IntWalk.i64_in _ (by omega)]; omega
                obtain ⟨x0, hx0⟩ : ∃ x0, x0 = subN 256 (tf 1).toNat ^^^ fac n := ⟨_, rfl⟩
                have hxor : Go.bits .xor .u8 (ofB (subN 256 (tf 1).toNat)) (ofB (fac n)) = ofB x0 := by rw [bits_xor, ← hx0]
                have HTT : Hid (∀ q, q < 4 → (fun q : Nat => if q = 0 then x0 else if q = 1 then subN 256 (tf 2).toNat else if q = 2 then subN 256 (tf 3).toNat else subN 256 (tf 0).toNat) q = tw (subN 256) (fac (i / 8 - 1)) i wn q) := Lib.hid (tt_zero (subN 256) (fac n) i wn tf x0 h80 (by rw [hn]) hx0 HTF.out)
                clear HS hx0 hn hz
                generalize subN 256 (tf 0).toNat = s0 at *
                generalize subN 256 (tf 1).toNat = s1 at *
                generalize subN 256 (tf 2).toNat = s2 at *
                generalize subN 256 (tf 3).toNat = s3 at *
                have HT3' := HT3
                clear HT3
                generalize ofB (tf 0) = y0 at *
                generalize ofB (tf 1) = y1 at *
                generalize ofB (tf 2) = y2 at *
                generalize ofB (tf 3) = y3 at *
                have HT3 := HT3'
                clear HT3'
                go_wp2_with fail
                refine start_ (n := 27) (S := fun w' => w'.cell? ⟨gt, 0, none⟩ = some (.int .u8 y0) ∧ w'.cell? ⟨gt, 1, none⟩ = some (.int .u8 y1) ∧ w'.cell? ⟨gt, 2, none⟩ = some (.int .u8 y2) ∧ w'.cell? ⟨gt, 3, none⟩ = some (.int .u8 y3) ∧ w'.cell? ⟨g + 1 + 1, 240 + y0.toNat, none⟩ = some (.int .u8 (ofB s0)) ∧ w'.cell? ⟨g + 1 + 1, 240 + y1.toNat, none⟩ = some (.int .u8 (ofB s1)) ∧ w'.cell? ⟨g + 1 + 1, 240 + y2.toNat, none⟩ = some (.int .u8 (ofB s2)) ∧ w'.cell? ⟨g + 1 + 1, 240 + y3.toNat, none⟩ = some (.int .u8 (ofB s3))) (ds := [26]) #[false, false, false, false, false, false, false, false, false, false, false, false, false, false, false, false, false, false, false, false, false, false, false, false, false, false, false] (by kernel_rfl) rfl rfl ⟨c0, c1, c2, c3, d0, d1, d2, d3⟩ (fun hHeld => ?_)
                have HR6 := Lib.hid HR3.out.drew
                have HK6 := Lib.hid HK3.out.drew
                have HT6 := Lib.hid HT3.out.drew
                have HB6 := Lib.hid (HB3.out.drew)
                have HF6 : Hid (w5.drew.cell? ⟨gt, 0, none⟩ = some (.int .u8 y0) ∧ w5.drew.cell? ⟨gt, 1, none⟩ = some (.int .u8 y1) ∧ w5.drew.cell? ⟨gt, 2, none⟩ = some (.int .u8 y2) ∧ w5.drew.cell? ⟨gt, 3, none⟩ = some (.int .u8 y3) ∧ w5.drew.cell? ⟨g + 1 + 1, 240 + y0.toNat, none⟩ = some (.int .u8 (ofB s0)) ∧ w5.drew.cell? ⟨g + 1 + 1, 240 + y1.toNat, none⟩ = some (.int .u8 (ofB s1)) ∧ w5.drew.cell? ⟨g + 1 + 1, 240 + y2.toNat, none⟩ = some (.int .u8 (ofB s2)) ∧ w5.drew.cell? ⟨g + 1 + 1, 240 + y3.toNat, none⟩ = some (.int .u8 (ofB s3))) := ⟨c0, c1, c2, c3, d0, d1, d2, d3⟩
                clear HR3 HK3 HT3 HB3 c0 c1 c2 c3 d0 d1 d2 d3
                generalize w5.drew = w6 at *
                refine pure_ (i := 0) (N := some 68) (v := ?_) (a' := ?_) #[true, false, false, false, false, false, false, false, false, false, false, false, false, false, false, false, false, false, false, false, false, false, false, false, false, false, false] rfl rfl (by kernel_rfl) (fun _ _ _ h => h) (Or.inl ⟨by rfl, ?_⟩) ?_ ?_
                rotate_left
                · intro w'
                  go_simp
                  with_reducible rfl
                rotate_left
                · simp only [Act.put, List.setIfInBounds_toArray, List.set_cons_zero, List.set_cons_succ, i64_w, i32_w]
                  rfl
                refine pure_ (i := 2) (N := some 70) (v := ?_) (a' := ?_) #[true, false, true, false, false, false, false, false, false, false, false, false, false, false, false, false, false, false, false, false, false, false, false, false, false, false, false] rfl rfl (by kernel_rfl) (fun _ _ _ h => h) (Or.inl ⟨by rfl, ?_⟩) ?_ ?_
                rotate_left
                · intro w'
                  go_simp
                  with_reducible rfl
                rotate_left
                · simp only [Act.put, List.setIfInBounds_toArray, List.set_cons_zero, List.set_cons_succ, i64_w, i32_w]
                  rfl
                refine pure_ (i := 5) (N := some 73) (v := ?_) (a' := ?_) #[true, false, true, false, false, true, false, false, false, false, false, false, false, false, false, false, false, false, false, false, false, false, false, false, false, false, false] rfl rfl (by kernel_rfl) (fun _ _ _ h => h) (Or.inl ⟨by rfl, ?_⟩) ?_ ?_
                rotate_left
                · intro w'
                  go_simp
                  with_reducible rfl
                rotate_left
                · simp only [Act.put, List.setIfInBounds_toArray, List.set_cons_zero, List.set_cons_succ, i64_w, i32_w]
                  rfl
                refine pure_ (i := 6) (N := some 74) (v := ?_) (a' := ?_) #[true, false, true, false, false, true, true, false, false, false, false, false, false, false, false, false, false, false, false, false, false, false, false, false, false, false, false] rfl rfl (by kernel_rfl) (fun _ _ _ h => h) (Or.inl ⟨by rfl, ?_⟩) ?_ ?_
                rotate_left
                · intro w'
                  go_simp
                  with_reducible rfl
                rotate_left
                · simp only [Act.put, List.setIfInBounds_toArray, List.set_cons_zero, List.set_cons_succ, i64_w, i32_w]
                  rfl
                refine pure_ (i := 7) (N := some 75) (v := ?_) (a' := ?_) #[true, false, true, false, false, true, true, true, false, false, false, false, false, false, false, false, false, false, false, false, false, false, false, false, false, false, false] rfl rfl (by kernel_rfl) (fun _ _ _ h => h) (Or.inl ⟨by rfl, ?_⟩) ?_ ?_
                rotate_left
                · intro w'
                  go_simp
                  with_reducible rfl
                rotate_left
                · simp only [Act.put, List.setIfInBounds_toArray, List.set_cons_zero, List.set_cons_succ, i64_w, i32_w]
                  rfl
                refine pure_ (i := 10) (N := some 78) (v := ?_) (a' := ?_) #[true, false, true, false, false, true, true, true, false, false, true, false, false, false, false, false, false, false, false, false, false, false, false, false, false, false, false] rfl rfl (by kernel_rfl) (fun _ _ _ h => h) (Or.inl ⟨by rfl, ?_⟩) ?_ ?_
                rotate_left
                · intro w'
                  go_simp
                  with_reducible rfl
                rotate_left
                · simp only [Act.put, List.setIfInBounds_toArray, List.set_cons_zero, List.set_cons_succ, i64_w, i32_w]
                  rfl
                refine pure_ (i := 12) (N := some 80) (v := ?_) (a' := ?_) #[true, false, true, false, false, true, true, true, false, false, true, false, true, false, false, false, false, false, false, false, false, false, false, false, false, false, false] rfl rfl (by kernel_rfl) (fun _ _ _ h => h) (Or.inl ⟨by rfl, ?_⟩) ?_ ?_
                rotate_left
                · intro w'
                  go_simp
                  with_reducible rfl
                rotate_left
                · simp only [Act.put, List.setIfInBounds_toArray, List.set_cons_zero, List.set_cons_succ, i64_w, i32_w]
                  rfl
                refine pure_ (i := 15) (N := some 83) (v := ?_) (a' := ?_) #[true, false, true, false, false, true, true, true, false, false, true, false, true, false, false, true, false, false, false, false, false, false, false, false, false, false, false] rfl rfl (by kernel_rfl) (fun _ _ _ h => h) (Or.inl ⟨by rfl, ?_⟩) ?_ ?_
                rotate_left
                · intro w'
                  go_simp
                  with_reducible rfl
                rotate_left
                · simp only [Act.put, List.setIfInBounds_toArray, List.set_cons_zero, List.set_cons_succ, i64_w, i32_w]
                  rfl
                refine pure_ (i := 17) (N := some 85) (v := ?_) (a' := ?_) #[true, false, true, false, false, true, true, true, false, false, true, false, true, false, false, true, false, true, false, false, false, false, false, false, false, false, false] rfl rfl (by kernel_rfl) (fun _ _ _ h => h) (Or.inl ⟨by rfl, ?_⟩) ?_ ?_
                rotate_left
                · intro w'
                  go_simp
                  with_reducible rfl
                rotate_left
                · simp only [Act.put, List.setIfInBounds_toArray, List.set_cons_zero, List.set_cons_succ, i64_w, i32_w]
                  rfl
                refine pure_ (i := 20) (N := some 88) (v := ?_) (a' := ?_) #[true, false, true, false, false, true, true, true, false, false, true, false, true, false, false, true, false, true, false, false, true, false, false, false, false, false, false] rfl rfl (by kernel_rfl) (fun _ _ _ h => h) (Or.inl ⟨by rfl, ?_⟩) ?_ ?_
                rotate_left
                · intro w'
                  go_simp
                  with_reducible rfl
                rotate_left
                · simp only [Act.put, List.setIfInBounds_toArray, List.set_cons_zero, List.set_cons_succ, i64_w, i32_w]
                  rfl
                refine pure_ (i := 22) (N := some 90) (v := ?_) (a' := ?_) #[true, false, true, false, false, true, true, true, false, false, true, false, true, false, false, true, false, true, false, false, true, false, true, false, false, false, false] rfl rfl (by kernel_rfl) (fun _ _ _ h => h) (Or.inl ⟨by rfl, ?_⟩) ?_ ?_
                rotate_left
                · intro w'
                  go_simp
                  with_reducible rfl
                rotate_left
                · simp only [Act.put, List.setIfInBounds_toArray, List.set_cons_zero, List.set_cons_succ, i64_w, i32_w]
                  rfl
                refine take_ (i := 1) (N := some 69) (v := ?_) (a' := ?_) #[true, true, true, false, false, true, true, true, false, false, true, false, true, false, false, true, false, true, false, false, true, false, true, false, false, false, false] rfl rfl (by kernel_rfl) (fun _ _ _ h => h) (Or.inl ⟨by rfl, ?_⟩) hHeld ?_ ?_
                rotate_left
                · rintro w' ⟨s0, s1, s2, s3, s4, s5, s6, s7⟩
                  go_simp
                  with_reducible rfl
                rotate_left
                · simp only [Act.put, List.setIfInBounds_toArray, List.set_cons_zero, List.set_cons_succ, i64_w, i32_w]
                  rfl
                refine pure_ (i := 3) (N := some 71) (v := ?_) (a' := ?_) #[true, true, true, true, false, true, true, true, false, false, true, false, true, false, false, true, false, true, false, false, true, false, true, false, false, false, false] rfl rfl (by kernel_rfl) (fun _ _ _ h => h) (Or.inl ⟨by rfl, ?_⟩) ?_ ?_
                rotate_left
                · intro w'
                  go_simp
                  with_reducible rfl
                rotate_left
                · simp only [Act.put, List.setIfInBounds_toArray, List.set_cons_zero, List.set_cons_succ, i64_w, i32_w]
                  rfl
                refine take_ (i := 4) (N := some 72) (v := ?_) (a' := ?_) #[true, true, true, true, true, true, true, true, false, false, true, false, true, false, false, true, false, true, false, false, true, false, true, false, false, false, false] rfl rfl (by kernel_rfl) (fun _ _ _ h => h) (Or.inl ⟨by rfl, ?_⟩) hHeld ?_ ?_
                rotate_left
                · rintro w' ⟨s0, s1, s2, s3, s4, s5, s6, s7⟩
                  go_simp
                  with_reducible rfl
                rotate_left
                · simp only [Act.put, List.setIfInBounds_toArray, List.set_cons_zero, List.set_cons_succ, i64_w, i32_w]
                  rfl
                refine take_ (i := 11) (N := some 79) (v := ?_) (a' := ?_) #[true, true, true, true, true, true, true, true, false, false, true, true, true, false, false, true, false, true, false, false, true, false, true, false, false, false, false] rfl rfl (by kernel_rfl) (fun _ _ _ h => h) (Or.inl ⟨by rfl, ?_⟩) hHeld ?_ ?_
                rotate_left
                · rintro w' ⟨s0, s1, s2, s3, s4, s5, s6, s7⟩
                  go_simp
                  with_reducible rfl
                rotate_left
                · simp only [Act.put, List.setIfInBounds_toArray, List.set_cons_zero, List.set_cons_succ, i64_w, i32_w]
                  rfl
                refine pure_ (i := 13) (N := some 81) (v := ?_) (a' := ?_) #[true, true, true, true, true, true, true, true, false, false, true, true, true, true, false, true, false, true, false, false, true, false, true, false, false, false, false] rfl rfl (by kernel_rfl) (fun _ _ _ h => h) (Or.inl ⟨by rfl, ?_⟩) ?_ ?_
                rotate_left
                · intro w'
                  go_simp
                  with_reducible rfl
                rotate_left
                · simp only [Act.put, List.setIfInBounds_toArray, List.set_cons_zero, List.set_cons_succ, i64_w, i32_w]
                  rfl
                refine take_ (i := 14) (N := some 82) (v := ?_) (a' := ?_) #[true, true, true, true, true, true, true, true, false, false, true, true, true, true, true, true, false, true, false, false, true, false, true, false, false, false, false] rfl rfl (by kernel_rfl) (fun _ _ _ h => h) (Or.inl ⟨by rfl, ?_⟩) hHeld ?_ ?_
                rotate_left
                · rintro w' ⟨s0, s1, s2, s3, s4, s5, s6, s7⟩
                  go_simp
                  with_reducible rfl
                rotate_left
                · simp only [Act.put, List.setIfInBounds_toArray, List.set_cons_zero, List.set_cons_succ, i64_w, i32_w]
                  rfl
                refine take_ (i := 16) (N := some 84) (v := ?_) (a' := ?_) #[true, true, true, true, true, true, true, true, false, false, true, true, true, true, true, true, true, true, false, false, true, false, true, false, false, false, false] rfl rfl (by kernel_rfl) (fun _ _ _ h => h) (Or.inl ⟨by rfl, ?_⟩) hHeld ?_ ?_
                rotate_left
                · rintro w' ⟨s0, s1, s2, s3, s4, s5, s6, s7⟩
                  go_simp
                  with_reducible rfl
                rotate_left
                · simp only [Act.put, List.setIfInBounds_toArray, List.set_cons_zero, List.set_cons_succ, i64_w, i32_w]
                  rfl
                refine pure_ (i := 18) (N := some 86) (v := ?_) (a' := ?_) #[true, true, true, true, true, true, true, true, false, false, true, true, true, true, true, true, true, true, true, false, true, false, true, false, false, false, false] rfl rfl (by kernel_rfl) (fun _ _ _ h => h) (Or.inl ⟨by rfl, ?_⟩) ?_ ?_
                rotate_left
                · intro w'
                  go_simp
                  with_reducible rfl
                rotate_left
                · simp only [Act.put, List.setIfInBounds_toArray, List.set_cons_zero, List.set_cons_succ, i64_w, i32_w]
                  rfl
                refine take_ (i := 19) (N := some 87) (v := ?_) (a' := ?_) #[true, true, true, true, true, true, true, true, false, false, true, true, true, true, true, true, true, true, true, true, true, false, true, false, false, false, false] rfl rfl (by kernel_rfl) (fun _ _ _ h => h) (Or.inl ⟨by rfl, ?_⟩) hHeld ?_ ?_
                rotate_left
                · rintro w' ⟨s0, s1, s2, s3, s4, s5, s6, s7⟩
                  go_simp
                  with_reducible rfl
                rotate_left
                · simp only [Act.put, List.setIfInBounds_toArray, List.set_cons_zero, List.set_cons_succ, i64_w, i32_w]
                  rfl
                refine take_ (i := 21) (N := some 89) (v := ?_) (a' := ?_) #[true, true, true, true, true, true, true, true, false, false, true, true, true, true, true, true, true, true, true, true, true, true, true, false, false, false, false] rfl rfl (by kernel_rfl) (fun _ _ _ h => h) (Or.inl ⟨by rfl, ?_⟩) hHeld ?_ ?_
                rotate_left
                · rintro w' ⟨s0, s1, s2, s3, s4, s5, s6, s7⟩
                  go_simp
                  with_reducible rfl
                rotate_left
                · simp only [Act.put, List.setIfInBounds_toArray, List.set_cons_zero, List.set_cons_succ, i64_w, i32_w]
                  rfl
                refine pure_ (i := 23) (N := some 91) (v := ?_) (a' := ?_) #[true, true, true, true, true, true, true, true, false, false, true, true, true, true, true, true, true, true, true, true, true, true, true, true, false, false, false] rfl rfl (by kernel_rfl) (fun _ _ _ h => h) (Or.inl ⟨by rfl, ?_⟩) ?_ ?_
                rotate_left
                · intro w'
                  go_simp
                  with_reducible rfl
                rotate_left
                · simp only [Act.put, List.setIfInBounds_toArray, List.set_cons_zero, List.set_cons_succ, i64_w, i32_w]
                  rfl
                refine take_ (i := 24) (N := some 92) (v := ?_) (a' := ?_) #[true, true, true, true, true, true, true, true, false, false, true, true, true, true, true, true, true, true, true, true, true, true, true, true, true, false, false] rfl rfl (by kernel_rfl) (fun _ _ _ h => h) (Or.inl ⟨by rfl, ?_⟩) hHeld ?_ ?_
                rotate_left
                · rintro w' ⟨s0, s1, s2, s3, s4, s5, s6, s7⟩
                  go_simp
                  with_reducible rfl
                rotate_left
                · simp only [Act.put, List.setIfInBounds_toArray, List.set_cons_zero, List.set_cons_succ, i64_w, i32_w]
                  rfl
                refine one_ (i := 8) (N := some 76) #[true, true, true, true, true, true, true, true, true, false, true, true, true, true, true, true, true, true, true, true, true, true, true, true, true, false, false] rfl rfl (by kernel_rfl) (by decide) (fun K hK => ?_)
                refine goes_ Try.func29 (by kernel_rfl) rfl #[.int .u8 2, .int .i64 (n : Int)] (by rfl) rfl rfl (by simp only [List.map_toArray, List.map_cons, List.map_nil]; rfl) ?_
                with_reducible refine (fac_calls n hn7 w6).mono ?_
                rintro e w3 ⟨rfl, nd, rfl⟩
                refine ⟨_, rfl, ?_⟩
                have HR7 := Lib.hid (HR6.out.drewN nd)
                have HK7 := Lib.hid (HK6.out.drewN nd)
                have HT7 := Lib.hid (HT6.out.drewN nd)
                have HB7 := Lib.hid (pw_below_drewN HB6.out nd)
                have HF7 : Hid ((w6.drewN nd).cell? ⟨gt, 0, none⟩ = some (.int .u8 y0) ∧ (w6.drewN nd).cell? ⟨gt, 1, none⟩ = some (.int .u8 y1) ∧ (w6.drewN nd).cell? ⟨gt, 2, none⟩ = some (.int .u8 y2) ∧ (w6.drewN nd).cell? ⟨gt, 3, none⟩ = some (.int .u8 y3) ∧ (w6.drewN nd).cell? ⟨g + 1 + 1, 240 + y0.toNat, none⟩ = some (.int .u8 (ofB s0)) ∧ (w6.drewN nd).cell? ⟨g + 1 + 1, 240 + y1.toNat, none⟩ = some (.int .u8 (ofB s1)) ∧ (w6.drewN nd).cell? ⟨g + 1 + 1, 240 + y2.toNat, none⟩ = some (.int .u8 (ofB s2)) ∧ (w6.drewN nd).cell? ⟨g + 1 + 1, 240 + y3.toNat, none⟩ = some (.int .u8 (ofB s3))) := HF6.out
                clear HR6 HK6 HT6 HB6 HF6
                generalize w6.drewN nd = w7 at *
                refine hK.out _ _ ⟨(HF7.out.1), (HF7.out.2.1), (HF7.out.2.2.1), (HF7.out.2.2.2.1), (HF7.out.2.2.2.2.1), (HF7.out.2.2.2.2.2.1), (HF7.out.2.2.2.2.2.2.1), (HF7.out.2.2.2.2.2.2.2)⟩ (fun hHeld => ?_)
                clear hK K
                refine norm_ (a' := ?_) ?_ ?_
                rotate_left
                · show Act.put _ (some 76) _ = _
                  simp only [Act.put, List.setIfInBounds_toArray, List.set_cons_zero, List.set_cons_succ, i64_w, i32_w]
                  rfl
                refine pure_ (i := 9) (N := some 77) (v := ?_) (a' := ?_) #[true, true, true, true, true, true, true, true, true, true, true, true, true, true, true, true, true, true, true, true, true, true, true, true, true, false, false] rfl rfl (by kernel_rfl) (fun _ _ _ h => h) (Or.inl ⟨by rfl, ?_⟩) ?_ ?_
                rotate_left
                · intro w'
                  go_simp
                  with_reducible rfl
                rotate_left
                · simp only [Act.put, List.setIfInBounds_toArray, List.set_cons_zero, List.set_cons_succ, i64_w, i32_w]
                  rfl
                refine pure_ (i := 25) (N := some 93) (v := ?_) (a' := ?_) #[true, true, true, true, true, true, true, true, true, true, true, true, true, true, true, true, true, true, true, true, true, true, true, true, true, true, false] rfl rfl (by kernel_rfl) (fun _ _ _ h => h) (Or.inl ⟨by rfl, ?_⟩) ?_ ?_
                rotate_left
                · intro w'
                  go_simp
                  with_reducible rfl
                rotate_left
                · simp only [Act.put, List.setIfInBounds_toArray, List.set_cons_zero, List.set_cons_succ, i64_w, i32_w]
                  rfl
                refine last_ (i := 26) (N := none) #[true, true, true, true, true, true, true, true, true, true, true, true, true, true, true, true, true, true, true, true, true, true, true, true, true, true, true] rfl rfl (by kernel_rfl) (by decide) (fun K hK => ?_)
                obtain ⟨hrow, ht8⟩ := st_lit4 HT7.out x0 s2 s3 s0
                refine skip_ (w1 := ?_) (by rfl) rfl ?_ ?_
                rotate_left
                · go_simp
                  rfl
                refine hK.out _ _ ?_
                clear hK K
                refine done_ (by kernel_rfl) ?_
                have hkp : Keeps gt w7 (w7.setRow gt #[.int .u8 (ofB x0), .int .u8 (ofB s2), .int .u8 (ofB s3), .int .u8 (ofB s0)]) := ⟨Blk.below_setRow (Below.refl _ _) (Nat.le_refl _) _, fun k _ hk => setRow_other w7 gt k _ hk⟩
                have HR3 := Lib.hid (hkp.is HR7.out (by have := HGT.out; omega))
                have HK3 := Lib.hid (hkp.is HK7.out (by have := HGT.out; omega))
                have HB3 := Lib.hid (HB7.out.trans (hkp.below.mono (by have := HGT.out; omega)))
                have HT3 := Lib.hid ht8
                clear hkp ht8 HR7 HK7 HB7 HT7 hrow l0 l1 l2 l3 m0 m1 m2 m3
                generalize w7.setRow gt #[.int .u8 (ofB x0), .int .u8 (ofB s2), .int .u8 (ofB s3), .int .u8 (ofB s0)] = w8 at *
                clear HF7 hxor htd wz wz0
                generalize fac n = fn at *
                have htm4 : ((0 : Int) == 4) = false := by decide
                generalize htt : (fun q : Nat => if q = 0 then x0 else if q = 1 then s2 else if q = 2 then s3 else s0) = tt at *
                have HTT2 : Hid (∀ q, q < 4 → tt q = tw (subN 256) (fac (i / 8 - 1)) i wn q) := fun q hq => by rw [← htt]; exact HTT.out q hq
                clear htt HTT
                obtain ⟨nw, hnw⟩ : ∃ nw : Nat → B, ∀ q, nw q = wn (4 * (i - 8) + q) ^^^ tt q := ⟨_, fun _ => rfl⟩
                have HNW := Lib.hid hnw
                clear hnw
                go_wp2_with fail
                go_loopw [9, 118, 119, 120, 121, 122, 123, 124, 125, 126, 127, 128, 129, 130, 131, 132, 133, 134, 135, 136, 137, 138, 139] (fun v9 v118 v119 v120 v121 v122 v123 v124 v125 v126 v127 v128 v129 v130 v131 v132 v133 v134 v135 v136 v137 v138 v139 wl => ∃ (q : Nat), q ≤ 4 ∧ v9 = .int .i64 (q : Int) ∧ Hid (Blk.Is wl (g + 1) (cB 752 key0) 46) ∧ Hid (Blk.Is wl (g + 1 + 1) (cB 752 (rks (blend wn (4 * i) q nw))) 46) ∧ Hid (Blk.Is wl gt (cB 4 tt) 62) ∧ Hid (Below g w wl)) (fun v9 _ _ _ _ _ _ _ _ _ _ _ _ _ _ _ _ _ _ _ _ _ _ _ => 4 - (intOf v9).toNat)
                case atStart => exact ⟨0, by omega, rfl, HR3, by rw [blend_zero]; exact HK3, HT3, HB3⟩
                case round =>
                  clear HR3 HK3 HT3 HB3
                  obtain ⟨q, hq, rfl, HR, HK, HT, HB⟩ := hrel
                  by_cases hl : q < 4
                  · obtain ⟨pp, hpp⟩ : ∃ pp : Nat, pp = 4 * i + q := ⟨_, rfl⟩
                    obtain ⟨oo, hoo⟩ : ∃ oo : Nat, oo = 4 * i - 32 := ⟨_, rfl⟩
                    obtain ⟨rr, hrr⟩ : ∃ rr : Nat, rr = oo + q := ⟨_, rfl⟩
                    have hm := HM.out
                    have wA : IntKind.i64.wrap (4 * (i : Int)) = (m : Int) := by rw [IntWalk.i64_in _ (by omega)]; omega
                    have wB : IntKind.i64.wrap ((m : Int) + (q : Int)) = (pp : Int) := by rw [IntWalk.i64_in _ (by omega)]; omega
                    have wC : IntKind.i64.wrap ((m : Int) - 32) = (oo : Int) := by rw [IntWalk.i64_in _ (by omega)]; omega
                    have wD : IntKind.i64.wrap ((oo : Int) + (q : Int)) = (rr : Int) := by rw [IntWalk.i64_in _ (by omega)]; omega
                    have bP : (pp : Int) < 240 := by omega
                    have bR : (rr : Int) < 240 := by omega
                    have ct : wr.cell? ⟨gt, q, none⟩ = some (.int .u8 (ofB (tt q))) := by rw [HT.out.cell, cB_get 4 tt q hl]
                    have cr : wr.cell? ⟨g + 1 + 1, rr, none⟩ = some (.int .u8 (ofB (wn (4 * (i - 8) + q)))) := by
                      rw [HK.out.cell, cB_get 752 _ _ (by omega), rks_get _ _ (by omega)]
                      unfold blend
                      rw [if_neg (by omega), show 4 * (i - 8) + q = rr by omega]
                    have cp : wr.cell? ⟨g + 1 + 1, pp, none⟩ = some (.int .u8 (ofB (rks (blend wn (4 * i) q nw) pp))) := by rw [HK.out.cell, cB_get 752 _ _ (by omega)]
                    have fp := HK.out.free pp
                    have hxor : Go.bits .xor .u8 (ofB (wn (4 * (i - 8) + q))) (ofB (tt q)) = ofB (nw q) := by rw [bits_xor, HNW.out]
                    have HKN : Hid (∀ W, Blk.Is W (g + 1 + 1) (cB 752 (rks (blend wn (4 * i) q nw))) 46 → Blk.Is (W.setCell ⟨g + 1 + 1, pp, none⟩ (.int .u8 (ofB (nw q)))) (g + 1 + 1) (cB 752 (rks (blend wn (4 * i) (q + 1) nw))) 46) := fun W h => by
                      have h2 := h.set pp (.int .u8 (ofB (nw q)))
                      rw [cB_set, rks_upd _ _ _ (by omega), hpp, blend_next] at h2
                      rw [hpp]
                      exact h2
                    have HQ := Lib.hid hl
                    clear hm hpp hoo hrr
                    generalize wn (4 * (i - 8) + q) = xq at *
                    generalize ofB (rks (blend wn (4 * i) q nw) pp) = cc at *
                    go_wp2_with fail
                    go_region
                    clear wA wB wC wD bP bR ct cr cp fp hxor
                    go_wp2_with fail
                    go_roundw
                    case rel =>
                      refine ⟨q + 1, by have := HQ.out; omega, by go_num, HR.out.drew.other (by simp) _, HKN.out _ HK.out.drew, HT.out.drew.other (by have := HGT.out; simp; omega) _, HB.out.drew.setCell (by show g ≤ g + 1 + 1; omega) _⟩
                    case measure => simp [intOf]; omega
                  · obtain rfl : q = 4 := by omega
                    go_wp2_with fail
                    go_roundw
                    case rel =>
                      refine ⟨i + 1, by omega, by go_num, by have := HI8.out; show 8 ≤ i + 1; omega, HR.out, ?_, HB.out⟩
                      have e : blend wn (4 * i) 4 nw = wordN key (subN 256) (i + 1) := by
                        show _ = blend (wordN key (subN 256) i) (4 * i) 4 (newWord key (subN 256) i (wordN key (subN 256) i))
                        rw [HWN.out]
                        exact blend_congr _ _ _ _ _ (fun q hq => by rw [HNW.out, HTT2.out q hq, newWord_high _ _ _ (by have := HI8.out; omega)])
                      rw [← e]
                      exact HK.out
                    case measure => simp [intOf]; omega
              · by_cases h84 : i % 8 = 4
                · have htm : Int.tmod (i : Int) 8 = 4 := by rw [Int.tmod_eq_emod_of_nonneg (by omega)]; omega
                  have hsub : ∀ q, w5.cell? ⟨g + 1 + 1, 240 + (ofB (tf q)).toNat, none⟩ = some (.int .u8 (ofB (subN 256 (tf q).toNat))) := fun q => by
                    have e : (ofB (tf q)).toNat = (tf q).toNat := by simp [ofB]
                    rw [HK3.out.cell, e, cB_get 752 _ _ (by have := (tf q).isLt; omega), rks_sub wn _ (tf q).isLt]
                  have HS := Lib.hid hsub
                  clear hsub
                  have c0 : w5.cell? ⟨gt, 0, none⟩ = some (.int .u8 (ofB (tf 0))) := by rw [HT3.out.cell, cB_get 4 tf 0 (by decide)]
                  have d0 := HS.out 0
                  have l0 := (ofB_range (tf 0)).1
                  have m0 := (ofB_range (tf 0)).2
                  have c1 : w5.cell? ⟨gt, 1, none⟩ = some (.int .u8 (ofB (tf 1))) := by rw [HT3.out.cell, cB_get 4 tf 1 (by decide)]
                  have d1 := HS.out 1
                  have l1 := (ofB_range (tf 1)).1
                  have m1 := (ofB_range (tf 1)).2
                  have c2 : w5.cell? ⟨gt, 2, none⟩ = some (.int .u8 (ofB (tf 2))) := by rw [HT3.out.cell, cB_get 4 tf 2 (by decide)]
                  have d2 := HS.out 2
                  have l2 := (ofB_range (tf 2)).1
                  have m2 := (ofB_range (tf 2)).2
                  have c3 : w5.cell? ⟨gt, 3, none⟩ = some (.int .u8 (ofB (tf 3))) := by rw [HT3.out.cell, cB_get 4 tf 3 (by decide)]
                  have d3 := HS.out 3
                  have l3 := (ofB_range (tf 3)).1
                  have m3 := (ofB_range (tf 3)).2
                  obtain ⟨x0, hx0⟩ : ∃ x0, x0 = subN 256 (tf 0).toNat := ⟨_, rfl⟩
                  have HTT : Hid (∀ q, q < 4 → (fun q : Nat => if q = 0 then x0 else if q = 1 then subN 256 (tf 1).toNat else if q = 2 then subN 256 (tf 2).toNat else subN 256 (tf 3).toNat) q = tw (subN 256) (fac (i / 8 - 1)) i wn q) := Lib.hid (tt_four (subN 256) (fac (i / 8 - 1)) i wn tf x0 h80 h84 hx0 HTF.out)
                  rw [← hx0] at d0
                  clear HS hx0
                  generalize subN 256 (tf 1).toNat = s1 at *
                  generalize subN 256 (tf 2).toNat = s2 at *
                  generalize subN 256 (tf 3).toNat = s3 at *
                  obtain ⟨hrow, ht8⟩ := st_lit4 HT3.out.drew x0 s1 s2 s3
                  have HR6 := Lib.hid HR3.out.drew
                  have HK6 := Lib.hid HK3.out.drew
                  have HT6 := Lib.hid HT3.out.drew
                  have HB6 := Lib.hid (HB3.out.drew)
                  clear HR3 HK3 HT3 HB3
                  generalize ofB (tf 0) = y0 at *
                  generalize ofB (tf 1) = y1 at *
                  generalize ofB (tf 2) = y2 at *
                  generalize ofB (tf 3) = y3 at *
                  go_wp2_with fail
                  refine start_ (n := 22) (S := fun w' => w'.cell? ⟨gt, 0, none⟩ = some (.int .u8 y0) ∧ w'.cell? ⟨gt, 1, none⟩ = some (.int .u8 y1) ∧ w'.cell? ⟨gt, 2, none⟩ = some (.int .u8 y2) ∧ w'.cell? ⟨gt, 3, none⟩ = some (.int .u8 y3) ∧ w'.cell? ⟨g + 1 + 1, 240 + y0.toNat, none⟩ = some (.int .u8 (ofB x0)) ∧ w'.cell? ⟨g + 1 + 1, 240 + y1.toNat, none⟩ = some (.int .u8 (ofB s1)) ∧ w'.cell? ⟨g + 1 + 1, 240 + y2.toNat, none⟩ = some (.int .u8 (ofB s2)) ∧ w'.cell? ⟨g + 1 + 1, 240 + y3.toNat, none⟩ = some (.int .u8 (ofB s3))) (ds := [21]) #[false, false, false, false, false, false, false, false, false, false, false, false, false, false, false, false, false, false, false, false, false, false] (by kernel_rfl) rfl rfl ⟨c0, c1, c2, c3, d0, d1, d2, d3⟩ (fun hHeld => ?_)
                  refine pure_ (i := 0) (N := some 97) (v := ?_) (a' := ?_) #[true, false, false, false, false, false, false, false, false, false, false, false, false, false, false, false, false, false, false, false, false, false] rfl rfl (by kernel_rfl) (fun _ _ _ h => h) (Or.inl ⟨by rfl, ?_⟩) ?_ ?_
                  rotate_left
                  · intro w'
                    go_simp
                    with_reducible rfl
                  rotate_left
                  · simp only [Act.put, List.setIfInBounds_toArray, List.set_cons_zero, List.set_cons_succ, i64_w, i32_w]
                    rfl
                  refine pure_ (i := 2) (N := some 99) (v := ?_) (a' := ?_) #[true, false, true, false, false, false, false, false, false, false, false, false, false, false, false, false, false, false, false, false, false, false] rfl rfl (by kernel_rfl) (fun _ _ _ h => h) (Or.inl ⟨by rfl, ?_⟩) ?_ ?_
                  rotate_left
                  · intro w'
                    go_simp
                    with_reducible rfl
                  rotate_left
                  · simp only [Act.put, List.setIfInBounds_toArray, List.set_cons_zero, List.set_cons_succ, i64_w, i32_w]
                    rfl
                  refine pure_ (i := 5) (N := some 102) (v := ?_) (a' := ?_) #[true, false, true, false, false, true, false, false, false, false, false, false, false, false, false, false, false, false, false, false, false, false] rfl rfl (by kernel_rfl) (fun _ _ _ h => h) (Or.inl ⟨by rfl, ?_⟩) ?_ ?_
                  rotate_left
                  · intro w'
                    go_simp
                    with_reducible rfl
                  rotate_left
                  · simp only [Act.put, List.setIfInBounds_toArray, List.set_cons_zero, List.set_cons_succ, i64_w, i32_w]
                    rfl
                  refine pure_ (i := 7) (N := some 104) (v := ?_) (a' := ?_) #[true, false, true, false, false, true, false, true, false, false, false, false, false, false, false, false, false, false, false, false, false, false] rfl rfl (by kernel_rfl) (fun _ _ _ h => h) (Or.inl ⟨by rfl, ?_⟩) ?_ ?_
                  rotate_left
                  · intro w'
                    go_simp
                    with_reducible rfl
                  rotate_left
                  · simp only [Act.put, List.setIfInBounds_toArray, List.set_cons_zero, List.set_cons_succ, i64_w, i32_w]
                    rfl
                  refine pure_ (i := 10) (N := some 107) (v := ?_) (a' := ?_) #[true, false, true, false, false, true, false, true, false, false, true, false, false, false, false, false, false, false, false, false, false, false] rfl rfl (by kernel_rfl) (fun _ _ _ h => h) (Or.inl ⟨by rfl, ?_⟩) ?_ ?_
                  rotate_left
                  · intro w'
                    go_simp
                    with_reducible rfl
                  rotate_left
                  · simp only [Act.put, List.setIfInBounds_toArray, List.set_cons_zero, List.set_cons_succ, i64_w, i32_w]
                    rfl
                  refine pure_ (i := 12) (N := some 109) (v := ?_) (a' := ?_) #[true, false, true, false, false, true, false, true, false, false, true, false, true, false, false, false, false, false, false, false, false, false] rfl rfl (by kernel_rfl) (fun _ _ _ h => h) (Or.inl ⟨by rfl, ?_⟩) ?_ ?_
                  rotate_left
                  · intro w'
                    go_simp
                    with_reducible rfl
                  rotate_left
                  · simp only [Act.put, List.setIfInBounds_toArray, List.set_cons_zero, List.set_cons_succ, i64_w, i32_w]
                    rfl
                  refine pure_ (i := 15) (N := some 112) (v := ?_) (a' := ?_) #[true, false, true, false, false, true, false, true, false, false, true, false, true, false, false, true, false, false, false, false, false, false] rfl rfl (by kernel_rfl) (fun _ _ _ h => h) (Or.inl ⟨by rfl, ?_⟩) ?_ ?_
                  rotate_left
                  · intro w'
                    go_simp
                    with_reducible rfl
                  rotate_left
                  · simp only [Act.put, List.setIfInBounds_toArray, List.set_cons_zero, List.set_cons_succ, i64_w, i32_w]
                    rfl
                  refine pure_ (i := 17) (N := some 114) (v := ?_) (a' := ?_) #[true, false, true, false, false, true, false, true, false, false, true, false, true, false, false, true, false, true, false, false, false, false] rfl rfl (by kernel_rfl) (fun _ _ _ h => h) (Or.inl ⟨by rfl, ?_⟩) ?_ ?_
                  rotate_left
                  · intro w'
                    go_simp
                    with_reducible rfl
                  rotate_left
                  · simp only [Act.put, List.setIfInBounds_toArray, List.set_cons_zero, List.set_cons_succ, i64_w, i32_w]
                    rfl
                  refine take_ (i := 1) (N := some 98) (v := ?_) (a' := ?_) #[true, true, true, false, false, true, false, true, false, false, true, false, true, false, false, true, false, true, false, false, false, false] rfl rfl (by kernel_rfl) (fun _ _ _ h => h) (Or.inl ⟨by rfl, ?_⟩) hHeld ?_ ?_
                  rotate_left
                  · rintro w' ⟨s0, s1, s2, s3, s4, s5, s6, s7⟩
                    go_simp
                    with_reducible rfl
                  rotate_left
                  · simp only [Act.put, List.setIfInBounds_toArray, List.set_cons_zero, List.set_cons_succ, i64_w, i32_w]
                    rfl
                  refine pure_ (i := 3) (N := some 100) (v := ?_) (a' := ?_) #[true, true, true, true, false, true, false, true, false, false, true, false, true, false, false, true, false, true, false, false, false, false] rfl rfl (by kernel_rfl) (fun _ _ _ h => h) (Or.inl ⟨by rfl, ?_⟩) ?_ ?_
                  rotate_left
                  · intro w'
                    go_simp
                    with_reducible rfl
                  rotate_left
                  · simp only [Act.put, List.setIfInBounds_toArray, List.set_cons_zero, List.set_cons_succ, i64_w, i32_w]
                    rfl
                  refine take_ (i := 4) (N := some 101) (v := ?_) (a' := ?_) #[true, true, true, true, true, true, false, true, false, false, true, false, true, false, false, true, false, true, false, false, false, false] rfl rfl (by kernel_rfl) (fun _ _ _ h => h) (Or.inl ⟨by rfl, ?_⟩) hHeld ?_ ?_
                  rotate_left
                  · rintro w' ⟨s0, s1, s2, s3, s4, s5, s6, s7⟩
                    go_simp
                    with_reducible rfl
                  rotate_left
                  · simp only [Act.put, List.setIfInBounds_toArray, List.set_cons_zero, List.set_cons_succ, i64_w, i32_w]
                    rfl
                  refine take_ (i := 6) (N := some 103) (v := ?_) (a' := ?_) #[true, true, true, true, true, true, true, true, false, false, true, false, true, false, false, true, false, true, false, false, false, false] rfl rfl (by kernel_rfl) (fun _ _ _ h => h) (Or.inl ⟨by rfl, ?_⟩) hHeld ?_ ?_
                  rotate_left
                  · rintro w' ⟨s0, s1, s2, s3, s4, s5, s6, s7⟩
                    go_simp
                    with_reducible rfl
                  rotate_left
                  · simp only [Act.put, List.setIfInBounds_toArray, List.set_cons_zero, List.set_cons_succ, i64_w, i32_w]
                    rfl
                  refine pure_ (i := 8) (N := some 105) (v := ?_) (a' := ?_) #[true, true, true, true, true, true, true, true, true, false, true, false, true, false, false, true, false, true, false, false, false, false] rfl rfl (by kernel_rfl) (fun _ _ _ h => h) (Or.inl ⟨by rfl, ?_⟩) ?_ ?_
                  rotate_left
                  · intro w'
                    go_simp
                    with_reducible rfl
                  rotate_left
                  · simp only [Act.put, List.setIfInBounds_toArray, List.set_cons_zero, List.set_cons_succ, i64_w, i32_w]
                    rfl
                  refine take_ (i := 9) (N := some 106) (v := ?_) (a' := ?_) #[true, true, true, true, true, true, true, true, true, true, true, false, true, false, false, true, false, true, false, false, false, false] rfl rfl (by kernel_rfl) (fun _ _ _ h => h) (Or.inl ⟨by rfl, ?_⟩) hHeld ?_ ?_
                  rotate_left
                  · rintro w' ⟨s0, s1, s2, s3, s4, s5, s6, s7⟩
                    go_simp
                    with_reducible rfl
                  rotate_left
                  · simp only [Act.put, List.setIfInBounds_toArray, List.set_cons_zero, List.set_cons_succ, i64_w, i32_w]
                    rfl
                  refine take_ (i := 11) (N := some 108) (v := ?_) (a' := ?_) #[true, true, true, true, true, true, true, true, true, true, true, true, true, false, false, true, false, true, false, false, false, false] rfl rfl (by kernel_rfl) (fun _ _ _ h => h) (Or.inl ⟨by rfl, ?_⟩) hHeld ?_ ?_
                  rotate_left
                  · rintro w' ⟨s0, s1, s2, s3, s4, s5, s6, s7⟩
                    go_simp
                    with_reducible rfl
                  rotate_left
                  · simp only [Act.put, List.setIfInBounds_toArray, List.set_cons_zero, List.set_cons_succ, i64_w, i32_w]
                    rfl
                  refine pure_ (i := 13) (N := some 110) (v := ?_) (a' := ?_) #[true, true, true, true, true, true, true, true, true, true, true, true, true, true, false, true, false, true, false, false, false, false] rfl rfl (by kernel_rfl) (fun _ _ _ h => h) (Or.inl ⟨by rfl, ?_⟩) ?_ ?_
                  rotate_left
                  · intro w'
                    go_simp
                    with_reducible rfl
                  rotate_left
                  · simp only [Act.put, List.setIfInBounds_toArray, List.set_cons_zero, List.set_cons_succ, i64_w, i32_w]
                    rfl
                  refine take_ (i := 14) (N := some 111) (v := ?_) (a' := ?_) #[true, true, true, true, true, true, true, true, true, true, true, true, true, true, true, true, false, true, false, false, false, false] rfl rfl (by kernel_rfl) (fun _ _ _ h => h) (Or.inl ⟨by rfl, ?_⟩) hHeld ?_ ?_
                  rotate_left
                  · rintro w' ⟨s0, s1, s2, s3, s4, s5, s6, s7⟩
                    go_simp
                    with_reducible rfl
                  rotate_left
                  · simp only [Act.put, List.setIfInBounds_toArray, List.set_cons_zero, List.set_cons_succ, i64_w, i32_w]
                    rfl
                  refine take_ (i := 16) (N := some 113) (v := ?_) (a' := ?_) #[true, true, true, true, true, true, true, true, true, true, true, true, true, true, true, true, true, true, false, false, false, false] rfl rfl (by kernel_rfl) (fun _ _ _ h => h) (Or.inl ⟨by rfl, ?_⟩) hHeld ?_ ?_
                  rotate_left
                  · rintro w' ⟨s0, s1, s2, s3, s4, s5, s6, s7⟩
                    go_simp
                    with_reducible rfl
                  rotate_left
                  · simp only [Act.put, List.setIfInBounds_toArray, List.set_cons_zero, List.set_cons_succ, i64_w, i32_w]
                    rfl
                  refine pure_ (i := 18) (N := some 115) (v := ?_) (a' := ?_) #[true, true, true, true, true, true, true, true, true, true, true, true, true, true, true, true, true, true, true, false, false, false] rfl rfl (by kernel_rfl) (fun _ _ _ h => h) (Or.inl ⟨by rfl, ?_⟩) ?_ ?_
                  rotate_left
                  · intro w'
                    go_simp
                    with_reducible rfl
                  rotate_left
                  · simp only [Act.put, List.setIfInBounds_toArray, List.set_cons_zero, List.set_cons_succ, i64_w, i32_w]
                    rfl
                  refine take_ (i := 19) (N := some 116) (v := ?_) (a' := ?_) #[true, true, true, true, true, true, true, true, true, true, true, true, true, true, true, true, true, true, true, true, false, false] rfl rfl (by kernel_rfl) (fun _ _ _ h => h) (Or.inl ⟨by rfl, ?_⟩) hHeld ?_ ?_
                  rotate_left
                  · rintro w' ⟨s0, s1, s2, s3, s4, s5, s6, s7⟩
                    go_simp
                    with_reducible rfl
                  rotate_left
                  · simp only [Act.put, List.setIfInBounds_toArray, List.set_cons_zero, List.set_cons_succ, i64_w, i32_w]
                    rfl
                  refine pure_ (i := 20) (N := some 117) (v := ?_) (a' := ?_) #[true, true, true, true, true, true, true, true, true, true, true, true, true, true, true, true, true, true, true, true, true, false] rfl rfl (by kernel_rfl) (fun _ _ _ h => h) (Or.inl ⟨by rfl, ?_⟩) ?_ ?_
                  rotate_left
                  · intro w'
                    go_simp
                    with_reducible rfl
                  rotate_left
                  · simp only [Act.put, List.setIfInBounds_toArray, List.set_cons_zero, List.set_cons_succ, i64_w, i32_w]
                    rfl
                  refine last_ (i := 21) (N := none) #[true, true, true, true, true, true, true, true, true, true, true, true, true, true, true, true, true, true, true, true, true, true] rfl rfl (by kernel_rfl) (by decide) (fun K hK => ?_)
                  have z0 := hrow
                  refine skip_ (w1 := ?_) (by rfl) rfl ?_ ?_
                  rotate_left
                  · go_simp
                    rfl
                  refine hK.out _ _ ?_
                  clear hK K
                  refine done_ (by kernel_rfl) ?_
                  clear c0 c1 c2 c3 d0 d1 d2 d3
                  have hkp : Keeps gt w5.drew (w5.drew.setRow gt #[.int .u8 (ofB x0), .int .u8 (ofB s1), .int .u8 (ofB s2), .int .u8 (ofB s3)]) := ⟨Blk.below_setRow (Below.refl _ _) (Nat.le_refl _) _, fun k _ hk => setRow_other w5.drew gt k _ hk⟩
                  have HR3 := Lib.hid (hkp.is HR6.out (by have := HGT.out; omega))
                  have HK3 := Lib.hid (hkp.is HK6.out (by have := HGT.out; omega))
                  have HB3 := Lib.hid (HB6.out.trans (hkp.below.mono (by have := HGT.out; omega)))
                  have HT3 := Lib.hid ht8
                  clear hkp ht8 HR6 HK6 HB6 HT6 hrow l0 l1 l2 l3 m0 m1 m2 m3
                  generalize w5.drew.setRow gt #[.int .u8 (ofB x0), .int .u8 (ofB s1), .int .u8 (ofB s2), .int .u8 (ofB s3)] = w8 at *
                  generalize htt : (fun q : Nat => if q = 0 then x0 else if q = 1 then s1 else if q = 2 then s2 else s3) = tt at *
                  have HTT2 : Hid (∀ q, q < 4 → tt q = tw (subN 256) (fac (i / 8 - 1)) i wn q) := fun q hq => by rw [← htt]; exact HTT.out q hq
                  clear htt HTT
                  obtain ⟨nw, hnw⟩ : ∃ nw : Nat → B, ∀ q, nw q = wn (4 * (i - 8) + q) ^^^ tt q := ⟨_, fun _ => rfl⟩
                  have HNW := Lib.hid hnw
                  clear hnw
                  go_wp2_with fail
                  go_loopw [9, 118, 119, 120, 121, 122, 123, 124, 125, 126, 127, 128, 129, 130, 131, 132, 133, 134, 135, 136, 137, 138, 139] (fun v9 v118 v119 v120 v121 v122 v123 v124 v125 v126 v127 v128 v129 v130 v131 v132 v133 v134 v135 v136 v137 v138 v139 wl => ∃ (q : Nat), q ≤ 4 ∧ v9 = .int .i64 (q : Int) ∧ Hid (Blk.Is wl (g + 1) (cB 752 key0) 46) ∧ Hid (Blk.Is wl (g + 1 + 1) (cB 752 (rks (blend wn (4 * i) q nw))) 46) ∧ Hid (Blk.Is wl gt (cB 4 tt) 62) ∧ Hid (Below g w wl)) (fun v9 _ _ _ _ _ _ _ _ _ _ _ _ _ _ _ _ _ _ _ _ _ _ _ => 4 - (intOf v9).toNat)
                  case atStart => exact ⟨0, by omega, rfl, HR3, by rw [blend_zero]; exact HK3, HT3, HB3⟩
                  case round =>
                    clear HR3 HK3 HT3 HB3
                    obtain ⟨q, hq, rfl, HR, HK, HT, HB⟩ := hrel
                    by_cases hl : q < 4
                    · obtain ⟨pp, hpp⟩ : ∃ pp : Nat, pp = 4 * i + q := ⟨_, rfl⟩
                      obtain ⟨oo, hoo⟩ : ∃ oo : Nat, oo = 4 * i - 32 := ⟨_, rfl⟩
                      obtain ⟨rr, hrr⟩ : ∃ rr : Nat, rr = oo + q := ⟨_, rfl⟩
                      have hm := HM.out
                      have wA : IntKind.i64.wrap (4 * (i : Int)) = (m : Int) := by rw [IntWalk.i64_in _ (by omega)]; omega
                      have wB : IntKind.i64.wrap ((m : Int) + (q : Int)) = (pp : Int) := by rw [IntWalk.i64_in _ (by omega)]; omega
                      have wC : IntKind.i64.wrap ((m : Int) - 32) = (oo : Int) := by rw [IntWalk.i64_in _ (by omega)]; omega
                      have wD : IntKind.i64.wrap ((oo : Int) + (q : Int)) = (rr : Int) := by rw [IntWalk.i64_in _ (by omega)]; omega
                      have bP : (pp : Int) < 240 := by omega
                      have bR : (rr : Int) < 240 := by omega
                      have ct : wr.cell? ⟨gt, q, none⟩ = some (.int .u8 (ofB (tt q))) := by rw [HT.out.cell, cB_get 4 tt q hl]
                      have cr : wr.cell? ⟨g + 1 + 1, rr, none⟩ = some (.int .u8 (ofB (wn (4 * (i - 8) + q)))) := by
                        rw [HK.out.cell, cB_get 752 _ _ (by omega), rks_get _ _ (by omega)]
                        unfold blend
                        rw [if_neg (by omega), show 4 * (i - 8) + q = rr by omega]
                      have cp : wr.cell? ⟨g + 1 + 1, pp, none⟩ = some (.int .u8 (ofB (rks (blend wn (4 * i) q nw) pp))) := by rw [HK.out.cell, cB_get 752 _ _ (by omega)]
                      have fp := HK.out.free pp
                      have hxor : Go.bits .xor .u8 (ofB (wn (4 * (i - 8) + q))) (ofB (tt q)) = ofB (nw q) := by rw [bits_xor, HNW.out]
                      have HKN : Hid (∀ W, Blk.Is W (g + 1 + 1) (cB 752 (rks (blend wn (4 * i) q nw))) 46 → Blk.Is (W.setCell ⟨g + 1 + 1, pp, none⟩ (.int .u8 (ofB (nw q)))) (g + 1 + 1) (cB 752 (rks (blend wn (4 * i) (q + 1) nw))) 46) := fun W h => by
                        have h2 := h.set pp (.int .u8 (ofB (nw q)))
                        rw [cB_set, rks_upd _ _ _ (by omega), hpp, blend_next] at h2
                        rw [hpp]
                        exact h2
                      have HQ := Lib.hid hl
                      clear hm hpp hoo hrr
                      generalize wn (4 * (i - 8) + q) = xq at *
                      generalize ofB (rks (blend wn (4 * i) q nw) pp) = cc at *
                      go_wp2_with fail
                      go_region
                      clear wA wB wC wD bP bR ct cr cp fp hxor
                      go_wp2_with fail
                      go_roundw
                      case rel =>
                        refine ⟨q + 1, by have := HQ.out; omega, by go_num, HR.out.drew.other (by simp) _, HKN.out _ HK.out.drew, HT.out.drew.other (by have := HGT.out; simp; omega) _, HB.out.drew.setCell (by show g ≤ g + 1 + 1; omega) _⟩
                      case measure => simp [intOf]; omega
                    · obtain rfl : q = 4 := by omega
                      go_wp2_with fail
                      go_roundw
                      case rel =>
                        refine ⟨i + 1, by omega, by go_num, by have := HI8.out; show 8 ≤ i + 1; omega, HR.out, ?_, HB.out⟩
                        have e : blend wn (4 * i) 4 nw = wordN key (subN 256) (i + 1) := by
                          show _ = blend (wordN key (subN 256) i) (4 * i) 4 (newWord key (subN 256) i (wordN key (subN 256) i))
                          rw [HWN.out]
                          exact blend_congr _ _ _ _ _ (fun q hq => by rw [HNW.out, HTT2.out q hq, newWord_high _ _ _ (by have := HI8.out; omega)])
                        rw [← e]
                        exact HK.out
                      case measure => simp [intOf]; omega
                · obtain ⟨z, hz⟩ : ∃ z : Nat, z = i % 8 := ⟨_, rfl⟩
                  have htm : Int.tmod (i : Int) 8 = (z : Int) := by rw [Int.tmod_eq_emod_of_nonneg (by omega)]; omega
                  have hz0 : ((z : Int) == 0) = false := beq_eq_false_iff_ne.mpr (by omega)
                  have hz4 : ((z : Int) == 4) = false := beq_eq_false_iff_ne.mpr (by omega)
                  have HTT : Hid (∀ q, q < 4 → tf q = tw (subN 256) (fac (i / 8 - 1)) i wn q) := fun q hq => by
                    unfold tw
                    rw [if_neg h80, if_neg h84, HTF.out, Nat.mul_comm]
                  clear hz
                  obtain ⟨nw, hnw⟩ : ∃ nw : Nat → B, ∀ q, nw q = wn (4 * (i - 8) + q) ^^^ tf q := ⟨_, fun _ => rfl⟩
                  have HNW := Lib.hid hnw
                  clear hnw
                  go_wp2_with fail
                  go_loopw [9, 118, 119, 120, 121, 122, 123, 124, 125, 126, 127, 128, 129, 130, 131, 132, 133, 134, 135, 136, 137, 138, 139] (fun v9 v118 v119 v120 v121 v122 v123 v124 v125 v126 v127 v128 v129 v130 v131 v132 v133 v134 v135 v136 v137 v138 v139 wl => ∃ (q : Nat), q ≤ 4 ∧ v9 = .int .i64 (q : Int) ∧ Hid (Blk.Is wl (g + 1) (cB 752 key0) 46) ∧ Hid (Blk.Is wl (g + 1 + 1) (cB 752 (rks (blend wn (4 * i) q nw))) 46) ∧ Hid (Blk.Is wl gt (cB 4 tf) 62) ∧ Hid (Below g w wl)) (fun v9 _ _ _ _ _ _ _ _ _ _ _ _ _ _ _ _ _ _ _ _ _ _ _ => 4 - (intOf v9).toNat)
                  case atStart => exact ⟨0, by omega, rfl, HR3, by rw [blend_zero]; exact HK3, HT3, HB3⟩
                  case round =>
                    clear HR3 HK3 HT3 HB3
                    obtain ⟨q, hq, rfl, HR, HK, HT, HB⟩ := hrel
                    by_cases hl : q < 4
                    · obtain ⟨pp, hpp⟩ : ∃ pp : Nat, pp = 4 * i + q := ⟨_, rfl⟩
                      obtain ⟨oo, hoo⟩ : ∃ oo : Nat, oo = 4 * i - 32 := ⟨_, rfl⟩
                      obtain ⟨rr, hrr⟩ : ∃ rr : Nat, rr = oo + q := ⟨_, rfl⟩
                      have hm := HM.out
                      have wA : IntKind.i64.wrap (4 * (i : Int)) = (m : Int) := by rw [IntWalk.i64_in _ (by omega)]; omega
                      have wB : IntKind.i64.wrap ((m : Int) + (q : Int)) = (pp : Int) := by rw [IntWalk.i64_in _ (by omega)]; omega
                      have wC : IntKind.i64.wrap ((m : Int) - 32) = (oo : Int) := by rw [IntWalk.i64_in _ (by omega)]; omega
                      have wD : IntKind.i64.wrap ((oo : Int) + (q : Int)) = (rr : Int) := by rw [IntWalk.i64_in _ (by omega)]; omega
                      have bP : (pp : Int) < 240 := by omega
                      have bR : (rr : Int) < 240 := by omega
                      have ct : wr.cell? ⟨gt, q, none⟩ = some (.int .u8 (ofB (tf q))) := by rw [HT.out.cell, cB_get 4 tf q hl]
                      have cr : wr.cell? ⟨g + 1 + 1, rr, none⟩ = some (.int .u8 (ofB (wn (4 * (i - 8) + q)))) := by
                        rw [HK.out.cell, cB_get 752 _ _ (by omega), rks_get _ _ (by omega)]
                        unfold blend
                        rw [if_neg (by omega), show 4 * (i - 8) + q = rr by omega]
                      have cp : wr.cell? ⟨g + 1 + 1, pp, none⟩ = some (.int .u8 (ofB (rks (blend wn (4 * i) q nw) pp))) := by rw [HK.out.cell, cB_get 752 _ _ (by omega)]
                      have fp := HK.out.free pp
                      have hxor : Go.bits .xor .u8 (ofB (wn (4 * (i - 8) + q))) (ofB (tf q)) = ofB (nw q) := by rw [bits_xor, HNW.out]
                      have HKN : Hid (∀ W, Blk.Is W (g + 1 + 1) (cB 752 (rks (blend wn (4 * i) q nw))) 46 → Blk.Is (W.setCell ⟨g + 1 + 1, pp, none⟩ (.int .u8 (ofB (nw q)))) (g + 1 + 1) (cB 752 (rks (blend wn (4 * i) (q + 1) nw))) 46) := fun W h => by
                        have h2 := h.set pp (.int .u8 (ofB (nw q)))
                        rw [cB_set, rks_upd _ _ _ (by omega), hpp, blend_next] at h2
                        rw [hpp]
                        exact h2
                      have HQ := Lib.hid hl
                      clear hm hpp hoo hrr
                      generalize wn (4 * (i - 8) + q) = xq at *
                      generalize ofB (rks (blend wn (4 * i) q nw) pp) = cc at *
                      go_wp2_with fail
                      go_region
                      clear wA wB wC wD bP bR ct cr cp fp hxor
                      go_wp2_with fail
                      go_roundw
                      case rel =>
                        refine ⟨q + 1, by have := HQ.out; omega, by go_num, HR.out.drew.other (by simp) _, HKN.out _ HK.out.drew, HT.out.drew.other (by have := HGT.out; simp; omega) _, HB.out.drew.setCell (by show g ≤ g + 1 + 1; omega) _⟩
                      case measure => simp [intOf]; omega
                    · obtain rfl : q = 4 := by omega
                      go_wp2_with fail
                      go_roundw
                      case rel =>
                        refine ⟨i + 1, by omega, by go_num, by have := HI8.out; show 8 ≤ i + 1; omega, HR.out, ?_, HB.out⟩
                        have e : blend wn (4 * i) 4 nw = wordN key (subN 256) (i + 1) := by
                          show _ = blend (wordN key (subN 256) i) (4 * i) 4 (newWord key (subN 256) i (wordN key (subN 256) i))
                          rw [HWN.out]
                          exact blend_congr _ _ _ _ _ (fun q hq => by rw [HNW.out, HTT.out q hq, newWord_high _ _ _ (by have := HI8.out; omega)])
                        rw [← e]
                        exact HK.out
                      case measure => simp [intOf]; omega
              -- behind round
            · obtain rfl : i = 60 := by omega
              obtain ⟨kf, hkf⟩ : ∃ kf, kf = keyK key := ⟨_, rfl⟩
              have HKE : Hid (Blk.Is wo (g + 1 + 1) (cB 752 kf) 46) := by rw [hkf]; exact HK.out
              have HKF := Lib.hid hkf
              clear HK hkf
              have hlk := Blk.load_row HKE.out (P := Try.prog) (t := 46) Try.underlying46 rfl (by rw [cB_size]; kernel_rfl)
              have hsr := Blk.store_row (P := Try.prog) (t := 46) (cB 752 kf) HR.out (by rw [cB_size]; kernel_rfl) (by rw [cB_size, cB_size]) (cB_one _ _)
              have HR7 := Lib.hid (HR.out.setRow (cB 752 kf))
              have HB7 := Lib.hid (Blk.below_setRow HB.out (show g ≤ g + 1 by omega) (cB 752 kf))
              go_wp2_with fail
              refine bodyPost_ret (results_cell_row rfl _ _ (g + 1) 46 (cB 752 kf) (0, 0) _ rfl HR7.out Try.underlying46 rfl (by rw [cB_size]; kernel_rfl)) rfl ?_
              exact ⟨by rw [HKF.out], by rw [HG.out]; exact HB7.out⟩
end Go.Proofs.Ytbebmbcjddibaaa.Aes
