/- What is said here: what aes.Expand makes of a key. -/
import Derived.Test.YtbebmbcjddibaaaGb
namespace Go.Proofs.Ytbebmbcjddibaaa.Aes
set_option linter.unusedVariables false
set_option linter.unusedSimpArgs false
open Go.RowKit Go.Proofs.YtbebmbcjddibaaaW.PrintWords Go.Proofs.YtbebmbcjddibaaaW.PrintLast Go.Proofs.YtbebmbcjddibaaaW.PrintMore
open Gf Gfi Poly AesF
theorem ld27 (x : Value) : Instr.loadAt 53 x = Blk.ld 53 x := rfl
theorem st27 (x v : Value) : Instr.storeAt 53 x v = Blk.st 53 x v := rfl
theorem ld41 (x : Value) : Instr.loadAt 68 x = Blk.ld 68 x := rfl
theorem ld32 (x : Value) : Instr.loadAt 22 x = Blk.ld 22 x := rfl
attribute [local go_sem ↓] ld4 st4 ld256 st256 ld27 st27 ld41 ld32
/-- A word's four bytes, ahead of the word eight before it. -/
def tw (S : Nat → B) (fc : B) (i : Nat) (W : Nat → B) : Nat → B := fun q =>
  if i % 8 = 0 then (if q = 0 then S (W (4 * (i - 1) + 1)).toNat ^^^ fc else S (W (4 * (i - 1) + (q + 1) % 4)).toNat)
  else if i % 8 = 4 then S (W (4 * (i - 1) + q)).toNat else W (4 * (i - 1) + q)
def newWord (key S : Nat → B) (i : Nat) (W : Nat → B) : Nat → B := fun q =>
  if i < 8 then key (4 * i + q) else W (4 * (i - 8) + q) ^^^ tw S (fac (i / 8 - 1)) i W q
def wordN (key S : Nat → B) : Nat → Nat → B
  | 0 => fun _ => 0#8
  | i + 1 => blend (wordN key S i) (4 * i) 4 (newWord key S i (wordN key S i))
theorem idx40 (f : Nat → B) (i : Nat) (h : i < 4) (W : World) : (Instr.index 62 (.agg (cB 4 f)) (.int .i64 (i : Int))).run Try.prog W = .ok (.int .u8 (ofB (f i))) W := by
  have h1 : (0 : Int) ≤ (i : Int) ∧ (i : Int) < (4 : Int) := by omega
  have hs : (sizeOf 5).run Try.prog W = .ok 1 W := by kernel_rfl
  have ha : (isAgg 5).run Try.prog W = .ok false W := by kernel_rfl
  have hb := cB_get 4 f i h
  simp [Instr.index, asIntOf, run_underlying Try.underlying62, h, Sem.run_bind, hs, part, ha, hb, Result.andThen]
theorem wordN_low (key S : Nat → B) (i : Nat) (h : i < 8) : wordN key S (i + 1) = blend (wordN key S i) (i * 4) 4 (fun q => key (4 * i + q)) := by
  have e : newWord key S i (wordN key S i) = fun q => key (4 * i + q) := by funext q; unfold newWord; rw [if_pos h]
  show blend _ (4 * i) 4 _ = _
  rw [e, Nat.mul_comm]
theorem newWord_high (key S : Nat → B) (i : Nat) (h : ¬ i < 8) (wn : Nat → B) (q : Nat) : newWord key S i wn q = wn (4 * (i - 8) + q) ^^^ tw S (fac (i / 8 - 1)) i wn q := by unfold newWord; rw [if_neg h]
theorem blend_next (f nw : Nat → B) (o q : Nat) : updB (blend f o q nw) (o + q) (nw q) = blend f o (q + 1) nw := by
  funext p
  unfold updB blend
  by_cases e : p = o + q
  · subst e
    rw [if_pos rfl, if_pos (by omega), Nat.add_sub_cancel_left]
  · rw [if_neg e]
    by_cases h : o ≤ p ∧ p < o + q
    · rw [if_pos h, if_pos (by omega)]
    · rw [if_neg h, if_neg (by omega)]
theorem blend_zero (f nw : Nat → B) (o : Nat) : blend f o 0 nw = f := by
  funext p
  unfold blend
  rw [if_neg (by omega)]
theorem blend_congr (f g g' : Nat → B) (o n : Nat) (h : ∀ q, q < n → g q = g' q) : blend f o n g = blend f o n g' := by
  funext p
  unfold blend
  by_cases e : o ≤ p ∧ p < o + n
  · rw [if_pos e, if_pos e, h _ (by omega)]
  · rw [if_neg e, if_neg e]
def key0 : Nat → B := fun _ => 0#8
def key2 : Nat → B := blend (blend key0 240 256 (subN 256)) 496 256 (undoN 256)
/-- The key made ready. -/
def keyK (key : Nat → B) : Nat → B := blend key2 0 240 (wordN key (subN 256) 60)
theorem key2_sub (x : Nat) (h : x < 256) : key2 (240 + x) = subN 256 x := by
  unfold key2 blend
  rw [if_neg (by omega), if_pos (by omega), Nat.add_sub_cancel_left]
theorem blend_four (f wf : Nat → B) (k o : Nat) (h : o = 4 * k) : blend (blend f 0 (4 * k) wf) o 4 (fun q => wf (4 * k + q)) = blend f 0 (4 * (k + 1)) wf := by
  subst h
  funext p
  unfold blend
  by_cases e : 4 * k ≤ p ∧ p < 4 * k + 4
  · rw [if_pos e, if_pos (by omega)]
    show wf (4 * k + (p - 4 * k)) = wf (p - 0)
    rw [show 4 * k + (p - 4 * k) = p - 0 by omega]
  · rw [if_neg e]
    by_cases e2 : 0 ≤ p ∧ p < 0 + 4 * k
    · rw [if_pos e2, if_pos (by omega)]
    · rw [if_neg e2, if_neg (by omega)]
theorem lit4 (a b c d : B) : (#[.int .u8 (ofB a), .int .u8 (ofB b), .int .u8 (ofB c), .int .u8 (ofB d)] : Array Value) = cB 4 (fun q : Nat => if q = 0 then a else if q = 1 then b else if q = 2 then c else d) := rfl
theorem st_lit4 {W : World} {g : Nat} {f : Nat → B} {T : TypeId} (h : Blk.Is W g (cB 4 f) T) (a b c d : B) :
    (Blk.st 62 (.pointer (some ⟨g, 0, none⟩)) (.agg #[.int .u8 (ofB a), .int .u8 (ofB b), .int .u8 (ofB c), .int .u8 (ofB d)])).run Try.prog W = .ok () (W.setRow g #[.int .u8 (ofB a), .int .u8 (ofB b), .int .u8 (ofB c), .int .u8 (ofB d)])
    ∧ Blk.Is (W.setRow g #[.int .u8 (ofB a), .int .u8 (ofB b), .int .u8 (ofB c), .int .u8 (ofB d)]) g (cB 4 (fun q : Nat => if q = 0 then a else if q = 1 then b else if q = 2 then c else d)) T := by
  rw [lit4]
  exact ⟨Blk.store_row (P := Try.prog) (t := 62) _ h (by rw [cB_size]; kernel_rfl) (by rw [cB_size, cB_size]) (cB_one _ _), h.setRow _⟩
theorem tt_zero (S : Nat → B) (fx : B) (i : Nat) (wn tf : Nat → B) (x0 : B) (h80 : i % 8 = 0) (hfx : fac (i / 8 - 1) = fx) (hx0 : x0 = S (tf 1).toNat ^^^ fx) (htf : ∀ q, tf q = wn ((i - 1) * 4 + q)) :
    ∀ q, q < 4 → (fun q : Nat => if q = 0 then x0 else if q = 1 then S (tf 2).toNat else if q = 2 then S (tf 3).toNat else S (tf 0).toNat) q = tw S (fac (i / 8 - 1)) i wn q := fun q hq => by
  unfold tw
  rw [if_pos h80, hfx]
  have hq4 : q = 0 ∨ q = 1 ∨ q = 2 ∨ q = 3 := by omega
  rcases hq4 with rfl | rfl | rfl | rfl
  · show x0 = _
    rw [hx0, htf, Nat.mul_comm]; rfl
  · show S (tf 2).toNat = _
    rw [htf, Nat.mul_comm]; rfl
  · show S (tf 3).toNat = _
    rw [htf, Nat.mul_comm]; rfl
  · show S (tf 0).toNat = _
    rw [htf, Nat.mul_comm]; rfl
theorem tt_four (S : Nat → B) (fx : B) (i : Nat) (wn tf : Nat → B) (x0 : B) (h80 : ¬ i % 8 = 0) (h84 : i % 8 = 4) (hx0 : x0 = S (tf 0).toNat) (htf : ∀ q, tf q = wn ((i - 1) * 4 + q)) :
    ∀ q, q < 4 → (fun q : Nat => if q = 0 then x0 else if q = 1 then S (tf 1).toNat else if q = 2 then S (tf 2).toNat else S (tf 3).toNat) q = tw S fx i wn q := fun q hq => by
  unfold tw
  rw [if_neg h80, if_pos h84]
  have hq4 : q = 0 ∨ q = 1 ∨ q = 2 ∨ q = 3 := by omega
  rcases hq4 with rfl | rfl | rfl | rfl
  · show x0 = _
    rw [hx0, htf, Nat.mul_comm]
  · show S (tf 1).toNat = _
    rw [htf, Nat.mul_comm]
  · show S (tf 2).toNat = _
    rw [htf, Nat.mul_comm]
  · show S (tf 3).toNat = _
    rw [htf, Nat.mul_comm]
set_option maxRecDepth 100000 in
set_option maxHeartbeats 2000000 in
theorem expand_calls (key : Nat → B) (w : World) : Calls Try.prog 22 #[.agg (cB 32 key)] w fun e w' => e = .returned (.agg (cB 752 (keyK key))) ∧ Below w.heap.size w w' := by
  have hz0 : ∀ w : World, (zeroValue 53).run Try.prog w = .ok (.agg (cB 752 key0)) w := zeroKey
  have hz1 : ∀ w : World, (zeroValue 68).run Try.prog w = .ok (.agg (cB 240 key0)) w := zeroRows
  have e1 : (w.alloc (.cells (cB 32 key) 22)).heap.size = w.heap.size + 1 := by simp
  have e2 : ((w.alloc (.cells (cB 32 key) 22)).alloc (.cells (cB 752 key0) 53)).heap.size = w.heap.size + 1 + 1 := by simp
  have HA0 := Lib.hid (((Blk.Is.new w (cB 32 key) 22).alloc (.cells (cB 752 key0) 53)).alloc (.cells (cB 752 key0) 53))
  have HR0 := Lib.hid ((Blk.Is.new (w.alloc (.cells (cB 32 key) 22)) (cB 752 key0) 53).alloc (.cells (cB 752 key0) 53))
  have HK0 := Lib.hid (Blk.Is.new ((w.alloc (.cells (cB 32 key) 22)).alloc (.cells (cB 752 key0) 53)) (cB 752 key0) 53)
  rw [e1] at HR0
  rw [e2] at HK0
  have HB0 := Lib.hid ((((Below.refl _ w).alloc (Nat.le_refl _) (.cells (cB 32 key) 22)).alloc (by omega) (.cells (cB 752 key0) 53)).alloc (by omega) (.cells (cB 752 key0) 53))
  clear e1 e2
  go_enter Try.func22, Try.ntmps22
  go_wp2_with fail
  clear hz0
  generalize ((w.alloc (.cells (cB 32 key) 22)).alloc (.cells (cB 752 key0) 53)).alloc (.cells (cB 752 key0) 53) = w0 at *
  generalize hg : w.heap.size = g at *
  have HGE := Lib.hid hg
  clear hg
  have HG0 := Lib.hid (show g ≤ w0.heap.size by have := HB0.out.size; have := HGE.out; omega)
  refine (boxes_calls w0).mono ?_
  rintro e w1 ⟨rfl, hB⟩
  have HA1 := Lib.hid (HA0.out.below hB HA0.out.lt)
  have HR1 := Lib.hid (HR0.out.below hB HR0.out.lt)
  have HK1 := Lib.hid (HK0.out.below hB HK0.out.lt)
  have HB1 := Lib.hid (HB0.out.trans (hB.mono HG0.out))
  clear HA0 HR0 HK0 HB0 HG0 hB
  obtain ⟨w2, hs2, hK2, hP2⟩ := st_mid HK1.out 44 240 256 (by omega) (subN 256) (by kernel_rfl)
  obtain ⟨w3, hs3, hK3, hP3⟩ := st_mid hK2 44 496 256 (by omega) (undoN 256) (by kernel_rfl)
  have hP := hP2.trans hP3
  have HA3 := Lib.hid ((hP.is HA1.out (by omega)).alloc (.cells (cB 240 key0) 68))
  have HR3 := Lib.hid ((hP.is HR1.out (by omega)).alloc (.cells (cB 240 key0) 68))
  have HK3 := Lib.hid (hK3.alloc (.cells (cB 240 key0) 68))
  have HW3 := Lib.hid (Blk.Is.new w3 (cB 240 key0) 68)
  have HGW := Lib.hid (show g + 1 + 1 < w3.heap.size from hK3.lt)
  have HB3 := Lib.hid ((HB1.out.trans (hP.below.mono (by omega))).alloc (by have := HGW.out; omega) (.cells (cB 240 key0) 68))
  clear HA1 HR1 HK1 HB1 hP2 hP3 hP hK2 hK3
  go_wp2_with fail
  clear hs2 hs3 hz1
  generalize w3.alloc (.cells (cB 240 key0) 68) = w4 at *
  generalize w3.heap.size = gw at *
  go_loopw [5, 6, 7, 8, 9, 18, 19, 20, 21, 22, 23, 24, 25, 26, 27, 28, 29, 30, 31, 32, 33, 34, 35, 36, 37, 38, 39, 40, 41, 42, 43, 44, 45, 46, 47, 48, 49, 50, 51, 52, 53, 54, 55, 56, 57, 58, 59, 60, 61, 62, 63, 64, 65, 66, 67, 68, 69, 70, 71, 72, 73, 74, 75, 76, 77, 78, 79, 80, 81, 82, 83, 84, 85, 86, 87, 88, 89, 90, 91, 92, 93, 94, 95, 96, 97, 98, 99, 100, 101, 102, 103, 104, 105, 106, 107] (fun v5 v6 v7 v8 v9 v18 v19 v20 v21 v22 v23 v24 v25 v26 v27 v28 v29 v30 v31 v32 v33 v34 v35 v36 v37 v38 v39 v40 v41 v42 v43 v44 v45 v46 v47 v48 v49 v50 v51 v52 v53 v54 v55 v56 v57 v58 v59 v60 v61 v62 v63 v64 v65 v66 v67 v68 v69 v70 v71 v72 v73 v74 v75 v76 v77 v78 v79 v80 v81 v82 v83 v84 v85 v86 v87 v88 v89 v90 v91 v92 v93 v94 v95 v96 v97 v98 v99 v100 v101 v102 v103 v104 v105 v106 v107 wr => ∃ (i : Nat), i ≤ 60 ∧ v18 = .int .i64 (i : Int) ∧ v5 = .int .u8 (ofB (fac ((i - 1) / 8))) ∧ Hid (Blk.Is wr g (cB 32 key) 22) ∧ Hid (Blk.Is wr (g + 1) (cB 752 key0) 53) ∧ Hid (Blk.Is wr (g + 1 + 1) (cB 752 key2) 53) ∧ Hid (Blk.Is wr gw (cB 240 (wordN key (subN 256) i)) 68) ∧ Hid (Below g w wr)) (fun _ _ _ _ _ v18 _ _ _ _ _ _ _ _ _ _ _ _ _ _ _ _ _ _ _ _ _ _ _ _ _ _ _ _ _ _ _ _ _ _ _ _ _ _ _ _ _ _ _ _ _ _ _ _ _ _ _ _ _ _ _ _ _ _ _ _ _ _ _ _ _ _ _ _ _ _ _ _ _ _ _ _ _ _ _ _ _ _ _ _ _ _ _ _ _ _ => 60 - (intOf v18).toNat)
  case atStart => exact ⟨0, by omega, rfl, rfl, HA3, HR3, HK3, HW3, HB3⟩
  case round =>
    clear HA3 HR3 HK3 HW3 HB3
    obtain ⟨i, hi, rfl, rfl, HA, HR, HK, HW, HB⟩ := hrel
    obtain ⟨wo, rfl⟩ : ∃ wo, wo = wr := ⟨_, rfl⟩
    by_cases hlt : i < 60
    · by_cases h8 : i < 8
      · have hsl := cut32 g (4 * i) (by omega) wo
        rw [show ((4 * i : Nat) : Int) = 4 * (i : Int) by omega] at hsl
        have har := arr4 ⟨g, 4 * i, none⟩ (32 - 4 * i) wo
        have hl := ld_mid HA.out 62 (4 * i) 4 (fun q => key (4 * i + q)) _ (fun j hj => cB_get 32 key _ (by omega)) Try.underlying62 rfl (by kernel_rfl)
        obtain ⟨w5, hst, hW5, hP⟩ := st_mid HW.out 62 (i * 4) 4 (by omega) (fun q => key (4 * i + q)) (by kernel_rfl)
        have HA5 := Lib.hid (hP.is HA.out (by have := HGW.out; omega))
        have HR5 := Lib.hid (hP.is HR.out (by have := HGW.out; omega))
        have HK5 := Lib.hid (hP.is HK.out (by have := HGW.out; omega))
        have HB5 := Lib.hid (HB.out.trans (hP.below.mono (by have := HGW.out; omega)))
        have HW5 := Lib.hid hW5
        clear HA HR HK HB HW hW5 hP
        go_wp2_with fail
        go_roundw
        case rel => exact ⟨i + 1, by omega, by go_num, by rw [show (i + 1 - 1) / 8 = (i - 1) / 8 by omega], HA5, HR5, HK5, by rw [wordN_low _ _ _ h8]; exact HW5, HB5⟩
        case measure => simp [intOf]; omega
      · generalize hwn : wordN key (subN 256) i = wn at *
        have HWN := Lib.hid hwn
        clear hwn
        obtain ⟨tf, htf⟩ : ∃ tf : Nat → B, ∀ q, tf q = wn ((i - 1) * 4 + q) := ⟨_, fun _ => rfl⟩
        obtain ⟨xf, hxf⟩ : ∃ xf : Nat → B, ∀ q, xf q = wn ((i - 8) * 4 + q) := ⟨_, fun _ => rfl⟩
        have HTF := Lib.hid htf
        have HXF := Lib.hid hxf
        clear htf hxf
        have hl1 := ld_mid HW.out 62 ((i - 1) * 4) 4 tf _ (fun j hj => by rw [HTF.out]; exact cB_get 240 wn _ (by omega)) Try.underlying62 rfl (by kernel_rfl)
        have hst := st4_new wo tf
        have HT := Lib.hid (Blk.Is.new wo (cB 4 tf) 62)
        have HTW := Lib.hid (show gw < wo.heap.size from HW.out.lt)
        have HA1 := Lib.hid (HA.out.alloc (.cells (cB 4 tf) 62))
        have HR1 := Lib.hid (HR.out.alloc (.cells (cB 4 tf) 62))
        have HK1 := Lib.hid (HK.out.alloc (.cells (cB 4 tf) 62))
        have HW1 := Lib.hid (HW.out.alloc (.cells (cB 4 tf) 62))
        have HB1 := Lib.hid (HB.out.alloc (by have := HGW.out; have := HTW.out; omega) (.cells (cB 4 tf) 62))
        clear HA HR HK HW HB
        by_cases h80 : i % 8 = 0
        · have htm : Int.tmod (i : Int) 8 = 0 := by rw [Int.tmod_eq_emod_of_nonneg (by omega)]; omega
          go_wp2_with fail
          clear hl1 hst htm
          generalize wo.alloc (.cells (cB 4 tf) 62) = w5 at *
          generalize wo.heap.size = gt at *
          have hsub : ∀ q, q < 4 → w5.cell? ⟨g + 1 + 1, 240 + (ofB (tf q)).toNat, none⟩ = some (.int .u8 (ofB (subN 256 (tf q).toNat))) := fun q hq => by
            have e : (ofB (tf q)).toNat = (tf q).toNat := by simp [ofB]
            rw [HK1.out.cell, e, cB_get 752 _ _ (by have := (tf q).isLt; omega), key2_sub _ (tf q).isLt]
          have HS := Lib.hid hsub
          clear hsub
          have c0 : w5.cell? ⟨gt, 0, none⟩ = some (.int .u8 (ofB (tf 0))) := by rw [HT.out.cell, cB_get 4 tf 0 (by decide)]
          have d0 := HS.out 0 (by decide)
          have l0 := (ofB_range (tf 0)).1
          have m0 := (ofB_range (tf 0)).2
          have c1 : w5.cell? ⟨gt, 1, none⟩ = some (.int .u8 (ofB (tf 1))) := by rw [HT.out.cell, cB_get 4 tf 1 (by decide)]
          have d1 := HS.out 1 (by decide)
          have l1 := (ofB_range (tf 1)).1
          have m1 := (ofB_range (tf 1)).2
          have c2 : w5.cell? ⟨gt, 2, none⟩ = some (.int .u8 (ofB (tf 2))) := by rw [HT.out.cell, cB_get 4 tf 2 (by decide)]
          have d2 := HS.out 2 (by decide)
          have l2 := (ofB_range (tf 2)).1
          have m2 := (ofB_range (tf 2)).2
          have c3 : w5.cell? ⟨gt, 3, none⟩ = some (.int .u8 (ofB (tf 3))) := by rw [HT.out.cell, cB_get 4 tf 3 (by decide)]
          have d3 := HS.out 3 (by decide)
          have l3 := (ofB_range (tf 3)).1
          have m3 := (ofB_range (tf 3)).2
          have hfx0 : fac (i / 8 - 1) = fac ((i - 1) / 8) := by rw [show (i - 1) / 8 = i / 8 - 1 by omega]
          have hfx1 : xt (fac ((i - 1) / 8)) = fac (i / 8) := by
            have e : i / 8 = (i - 1) / 8 + 1 := by omega
            rw [e]; rfl
          obtain ⟨x0, hx0⟩ : ∃ x0, x0 = subN 256 (tf 1).toNat ^^^ fac ((i - 1) / 8) := ⟨_, rfl⟩
          have hxor : Go.bits .xor .u8 (ofB (subN 256 (tf 1).toNat)) (ofB (fac ((i - 1) / 8))) = ofB x0 := by rw [bits_xor, ← hx0]
          have HTT : Hid (∀ q, q < 4 → (fun q : Nat => if q = 0 then x0 else if q = 1 then subN 256 (tf 2).toNat else if q = 2 then subN 256 (tf 3).toNat else subN 256 (tf 0).toNat) q = tw (subN 256) (fac (i / 8 - 1)) i wn q) := Lib.hid (tt_zero (subN 256) (fac ((i - 1) / 8)) i wn tf x0 h80 hfx0 hx0 HTF.out)
          clear HS
          generalize subN 256 (tf 0).toNat = s0 at *
          generalize subN 256 (tf 1).toNat = s1 at *
          generalize subN 256 (tf 2).toNat = s2 at *
          generalize subN 256 (tf 3).toNat = s3 at *
          obtain ⟨hrow, ht6⟩ := st_lit4 HT.out.drew x0 s2 s3 s0
          have HT6 := Lib.hid ht6
          clear ht6
          have hkp : Keeps gt w5 (w5.drew.setRow gt #[.int .u8 (ofB x0), .int .u8 (ofB s2), .int .u8 (ofB s3), .int .u8 (ofB s0)]) := ⟨Blk.below_setRow (Below.refl _ _).drew (Nat.le_refl _) _, fun k _ hk => setRow_other w5.drew gt k _ hk⟩
          have HA6 := Lib.hid (hkp.is HA1.out (by have := HGW.out; have := HTW.out; omega))
          have HR6 := Lib.hid (hkp.is HR1.out (by have := HGW.out; have := HTW.out; omega))
          have HK6 := Lib.hid (hkp.is HK1.out (by have := HGW.out; have := HTW.out; omega))
          have HW6 := Lib.hid (hkp.is HW1.out (by have := HGW.out; have := HTW.out; omega))
          have HB6 := Lib.hid (HB1.out.trans (hkp.below.mono (by have := HGW.out; have := HTW.out; omega)))
          have HFX1 := Lib.hid hfx1
          clear hfx0 hfx1 hx0 hkp
          have HTFn := Lib.hid (show tf = tf from rfl)
          clear HA1 HR1 HK1 HW1 HB1 HT
          generalize ofB (tf 0) = y0 at *
          generalize ofB (tf 1) = y1 at *
          generalize ofB (tf 2) = y2 at *
          generalize ofB (tf 3) = y3 at *
          generalize fac ((i - 1) / 8) = fx0 at *
          -- region 13
          refine start_ (n := 24) (S := fun w' => w'.cell? ⟨gt, 0, none⟩ = some (.int .u8 y0) ∧ w'.cell? ⟨gt, 1, none⟩ = some (.int .u8 y1) ∧ w'.cell? ⟨gt, 2, none⟩ = some (.int .u8 y2) ∧ w'.cell? ⟨gt, 3, none⟩ = some (.int .u8 y3) ∧ w'.cell? ⟨g + 1 + 1, 240 + y0.toNat, none⟩ = some (.int .u8 (ofB s0)) ∧ w'.cell? ⟨g + 1 + 1, 240 + y1.toNat, none⟩ = some (.int .u8 (ofB s1)) ∧ w'.cell? ⟨g + 1 + 1, 240 + y2.toNat, none⟩ = some (.int .u8 (ofB s2)) ∧ w'.cell? ⟨g + 1 + 1, 240 + y3.toNat, none⟩ = some (.int .u8 (ofB s3))) (ds := [23]) #[false, false, false, false, false, false, false, false, false, false, false, false, false, false, false, false, false, false, false, false, false, false, false, false] (by kernel_rfl) rfl rfl ⟨c0, c1, c2, c3, d0, d1, d2, d3⟩ (fun hHeld => ?_)
          refine pure_ (i := 0) (N := some 41) (v := ?_) (a' := ?_) #[true, false, false, false, false, false, false, false, false, false, false, false, false, false, false, false, false, false, false, false, false, false, false, false] rfl rfl (by kernel_rfl) (fun _ _ _ h => h) (Or.inl ⟨by rfl, ?_⟩) ?_ ?_
          rotate_left
          · intro w'
            go_simp
            with_reducible rfl
          rotate_left
          · simp only [Act.put, List.setIfInBounds_toArray, List.set_cons_zero, List.set_cons_succ, i64_w, i32_w]
            rfl
          refine pure_ (i := 2) (N := some 43) (v := ?_) (a' := ?_) #[true, false, true, false, false, false, false, false, false, false, false, false, false, false, false, false, false, false, false, false, false, false, false, false] rfl rfl (by kernel_rfl) (fun _ _ _ h => h) (Or.inl ⟨by rfl, ?_⟩) ?_ ?_
          rotate_left
          · intro w'
            go_simp
            with_reducible rfl
          rotate_left
          · simp only [Act.put, List.setIfInBounds_toArray, List.set_cons_zero, List.set_cons_succ, i64_w, i32_w]
            rfl
          refine pure_ (i := 5) (N := some 46) (v := ?_) (a' := ?_) #[true, false, true, false, false, true, false, false, false, false, false, false, false, false, false, false, false, false, false, false, false, false, false, false] rfl rfl (by kernel_rfl) (fun _ _ _ h => h) (Or.inl ⟨by rfl, ?_⟩) ?_ ?_
          rotate_left
          · intro w'
            go_simp
            with_reducible rfl
          rotate_left
          · simp only [Act.put, List.setIfInBounds_toArray, List.set_cons_zero, List.set_cons_succ, i64_w, i32_w]
            rfl
          refine pure_ (i := 7) (N := some 48) (v := ?_) (a' := ?_) #[true, false, true, false, false, true, false, true, false, false, false, false, false, false, false, false, false, false, false, false, false, false, false, false] rfl rfl (by kernel_rfl) (fun _ _ _ h => h) (Or.inl ⟨by rfl, ?_⟩) ?_ ?_
          rotate_left
          · intro w'
            go_simp
            with_reducible rfl
          rotate_left
          · simp only [Act.put, List.setIfInBounds_toArray, List.set_cons_zero, List.set_cons_succ, i64_w, i32_w]
            rfl
          refine pure_ (i := 9) (N := some 50) (v := ?_) (a' := ?_) #[true, false, true, false, false, true, false, true, false, true, false, false, false, false, false, false, false, false, false, false, false, false, false, false] rfl rfl (by kernel_rfl) (fun _ _ _ h => h) (Or.inl ⟨by rfl, ?_⟩) ?_ ?_
          rotate_left
          · intro w'
            go_simp
            with_reducible rfl
          rotate_left
          · simp only [Act.put, List.setIfInBounds_toArray, List.set_cons_zero, List.set_cons_succ, i64_w, i32_w]
            rfl
          refine pure_ (i := 12) (N := some 53) (v := ?_) (a' := ?_) #[true, false, true, false, false, true, false, true, false, true, false, false, true, false, false, false, false, false, false, false, false, false, false, false] rfl rfl (by kernel_rfl) (fun _ _ _ h => h) (Or.inl ⟨by rfl, ?_⟩) ?_ ?_
          rotate_left
          · intro w'
            go_simp
            with_reducible rfl
          rotate_left
          · simp only [Act.put, List.setIfInBounds_toArray, List.set_cons_zero, List.set_cons_succ, i64_w, i32_w]
            rfl
          refine pure_ (i := 14) (N := some 55) (v := ?_) (a' := ?_) #[true, false, true, false, false, true, false, true, false, true, false, false, true, false, true, false, false, false, false, false, false, false, false, false] rfl rfl (by kernel_rfl) (fun _ _ _ h => h) (Or.inl ⟨by rfl, ?_⟩) ?_ ?_
          rotate_left
          · intro w'
            go_simp
            with_reducible rfl
          rotate_left
          · simp only [Act.put, List.setIfInBounds_toArray, List.set_cons_zero, List.set_cons_succ, i64_w, i32_w]
            rfl
          refine pure_ (i := 17) (N := some 58) (v := ?_) (a' := ?_) #[true, false, true, false, false, true, false, true, false, true, false, false, true, false, true, false, false, true, false, false, false, false, false, false] rfl rfl (by kernel_rfl) (fun _ _ _ h => h) (Or.inl ⟨by rfl, ?_⟩) ?_ ?_
          rotate_left
          · intro w'
            go_simp
            with_reducible rfl
          rotate_left
          · simp only [Act.put, List.setIfInBounds_toArray, List.set_cons_zero, List.set_cons_succ, i64_w, i32_w]
            rfl
          refine pure_ (i := 19) (N := some 60) (v := ?_) (a' := ?_) #[true, false, true, false, false, true, false, true, false, true, false, false, true, false, true, false, false, true, false, true, false, false, false, false] rfl rfl (by kernel_rfl) (fun _ _ _ h => h) (Or.inl ⟨by rfl, ?_⟩) ?_ ?_
          rotate_left
          · intro w'
            go_simp
            with_reducible rfl
          rotate_left
          · simp only [Act.put, List.setIfInBounds_toArray, List.set_cons_zero, List.set_cons_succ, i64_w, i32_w]
            rfl
          refine take_ (i := 1) (N := some 42) (v := ?_) (a' := ?_) #[true, true, true, false, false, true, false, true, false, true, false, false, true, false, true, false, false, true, false, true, false, false, false, false] rfl rfl (by kernel_rfl) (fun _ _ _ h => h) (Or.inl ⟨by rfl, ?_⟩) hHeld ?_ ?_
          rotate_left
          · rintro w' ⟨s0, s1, s2, s3, s4, s5, s6, s7⟩
            go_simp
            with_reducible rfl
          rotate_left
          · simp only [Act.put, List.setIfInBounds_toArray, List.set_cons_zero, List.set_cons_succ, i64_w, i32_w]
            rfl
          refine pure_ (i := 3) (N := some 44) (v := ?_) (a' := ?_) #[true, true, true, true, false, true, false, true, false, true, false, false, true, false, true, false, false, true, false, true, false, false, false, false] rfl rfl (by kernel_rfl) (fun _ _ _ h => h) (Or.inl ⟨by rfl, ?_⟩) ?_ ?_
          rotate_left
          · intro w'
            go_simp
            with_reducible rfl
          rotate_left
          · simp only [Act.put, List.setIfInBounds_toArray, List.set_cons_zero, List.set_cons_succ, i64_w, i32_w]
            rfl
          refine take_ (i := 4) (N := some 45) (v := ?_) (a' := ?_) #[true, true, true, true, true, true, false, true, false, true, false, false, true, false, true, false, false, true, false, true, false, false, false, false] rfl rfl (by kernel_rfl) (fun _ _ _ h => h) (Or.inl ⟨by rfl, ?_⟩) hHeld ?_ ?_
          rotate_left
          · rintro w' ⟨s0, s1, s2, s3, s4, s5, s6, s7⟩
            go_simp
            with_reducible rfl
          rotate_left
          · simp only [Act.put, List.setIfInBounds_toArray, List.set_cons_zero, List.set_cons_succ, i64_w, i32_w]
            rfl
          refine pure_ (i := 6) (N := some 47) (v := ?_) (a' := ?_) #[true, true, true, true, true, true, true, true, false, true, false, false, true, false, true, false, false, true, false, true, false, false, false, false] rfl rfl (by kernel_rfl) (fun _ _ _ h => h) (Or.inl ⟨by rfl, ?_⟩) ?_ ?_
          rotate_left
          · intro w'
            go_simp
            with_reducible rfl
          rotate_left
          · simp only [Act.put, List.setIfInBounds_toArray, List.set_cons_zero, List.set_cons_succ, i64_w, i32_w]
            rfl
          refine take_ (i := 8) (N := some 49) (v := ?_) (a' := ?_) #[true, true, true, true, true, true, true, true, true, true, false, false, true, false, true, false, false, true, false, true, false, false, false, false] rfl rfl (by kernel_rfl) (fun _ _ _ h => h) (Or.inl ⟨by rfl, ?_⟩) hHeld ?_ ?_
          rotate_left
          · rintro w' ⟨s0, s1, s2, s3, s4, s5, s6, s7⟩
            go_simp
            with_reducible rfl
          rotate_left
          · simp only [Act.put, List.setIfInBounds_toArray, List.set_cons_zero, List.set_cons_succ, i64_w, i32_w]
            rfl
          refine pure_ (i := 10) (N := some 51) (v := ?_) (a' := ?_) #[true, true, true, true, true, true, true, true, true, true, true, false, true, false, true, false, false, true, false, true, false, false, false, false] rfl rfl (by kernel_rfl) (fun _ _ _ h => h) (Or.inl ⟨by rfl, ?_⟩) ?_ ?_
          rotate_left
          · intro w'
            go_simp
            with_reducible rfl
          rotate_left
          · simp only [Act.put, List.setIfInBounds_toArray, List.set_cons_zero, List.set_cons_succ, i64_w, i32_w]
            rfl
          refine take_ (i := 11) (N := some 52) (v := ?_) (a' := ?_) #[true, true, true, true, true, true, true, true, true, true, true, true, true, false, true, false, false, true, false, true, false, false, false, false] rfl rfl (by kernel_rfl) (fun _ _ _ h => h) (Or.inl ⟨by rfl, ?_⟩) hHeld ?_ ?_
          rotate_left
          · rintro w' ⟨s0, s1, s2, s3, s4, s5, s6, s7⟩
            go_simp
            with_reducible rfl
          rotate_left
          · simp only [Act.put, List.setIfInBounds_toArray, List.set_cons_zero, List.set_cons_succ, i64_w, i32_w]
            rfl
          refine take_ (i := 13) (N := some 54) (v := ?_) (a' := ?_) #[true, true, true, true, true, true, true, true, true, true, true, true, true, true, true, false, false, true, false, true, false, false, false, false] rfl rfl (by kernel_rfl) (fun _ _ _ h => h) (Or.inl ⟨by rfl, ?_⟩) hHeld ?_ ?_
          rotate_left
          · rintro w' ⟨s0, s1, s2, s3, s4, s5, s6, s7⟩
            go_simp
            with_reducible rfl
          rotate_left
          · simp only [Act.put, List.setIfInBounds_toArray, List.set_cons_zero, List.set_cons_succ, i64_w, i32_w]
            rfl
          refine pure_ (i := 15) (N := some 56) (v := ?_) (a' := ?_) #[true, true, true, true, true, true, true, true, true, true, true, true, true, true, true, true, false, true, false, true, false, false, false, false] rfl rfl (by kernel_rfl) (fun _ _ _ h => h) (Or.inl ⟨by rfl, ?_⟩) ?_ ?_
          rotate_left
          · intro w'
            go_simp
            with_reducible rfl
          rotate_left
          · simp only [Act.put, List.setIfInBounds_toArray, List.set_cons_zero, List.set_cons_succ, i64_w, i32_w]
            rfl
          refine take_ (i := 16) (N := some 57) (v := ?_) (a' := ?_) #[true, true, true, true, true, true, true, true, true, true, true, true, true, true, true, true, true, true, false, true, false, false, false, false] rfl rfl (by kernel_rfl) (fun _ _ _ h => h) (Or.inl ⟨by rfl, ?_⟩) hHeld ?_ ?_
          rotate_left
          · rintro w' ⟨s0, s1, s2, s3, s4, s5, s6, s7⟩
            go_simp
            with_reducible rfl
          rotate_left
          · simp only [Act.put, List.setIfInBounds_toArray, List.set_cons_zero, List.set_cons_succ, i64_w, i32_w]
            rfl
          refine take_ (i := 18) (N := some 59) (v := ?_) (a' := ?_) #[true, true, true, true, true, true, true, true, true, true, true, true, true, true, true, true, true, true, true, true, false, false, false, false] rfl rfl (by kernel_rfl) (fun _ _ _ h => h) (Or.inl ⟨by rfl, ?_⟩) hHeld ?_ ?_
          rotate_left
          · rintro w' ⟨s0, s1, s2, s3, s4, s5, s6, s7⟩
            go_simp
            with_reducible rfl
          rotate_left
          · simp only [Act.put, List.setIfInBounds_toArray, List.set_cons_zero, List.set_cons_succ, i64_w, i32_w]
            rfl
          refine pure_ (i := 20) (N := some 61) (v := ?_) (a' := ?_) #[true, true, true, true, true, true, true, true, true, true, true, true, true, true, true, true, true, true, true, true, true, false, false, false] rfl rfl (by kernel_rfl) (fun _ _ _ h => h) (Or.inl ⟨by rfl, ?_⟩) ?_ ?_
          rotate_left
          · intro w'
            go_simp
            with_reducible rfl
          rotate_left
          · simp only [Act.put, List.setIfInBounds_toArray, List.set_cons_zero, List.set_cons_succ, i64_w, i32_w]
            rfl
          refine take_ (i := 21) (N := some 62) (v := ?_) (a' := ?_) #[true, true, true, true, true, true, true, true, true, true, true, true, true, true, true, true, true, true, true, true, true, true, false, false] rfl rfl (by kernel_rfl) (fun _ _ _ h => h) (Or.inl ⟨by rfl, ?_⟩) hHeld ?_ ?_
          rotate_left
          · rintro w' ⟨s0, s1, s2, s3, s4, s5, s6, s7⟩
            go_simp
            with_reducible rfl
          rotate_left
          · simp only [Act.put, List.setIfInBounds_toArray, List.set_cons_zero, List.set_cons_succ, i64_w, i32_w]
            rfl
          refine pure_ (i := 22) (N := some 63) (v := ?_) (a' := ?_) #[true, true, true, true, true, true, true, true, true, true, true, true, true, true, true, true, true, true, true, true, true, true, true, false] rfl rfl (by kernel_rfl) (fun _ _ _ h => h) (Or.inl ⟨by rfl, ?_⟩) ?_ ?_
          rotate_left
          · intro w'
            go_simp
            with_reducible rfl
          rotate_left
          · simp only [Act.put, List.setIfInBounds_toArray, List.set_cons_zero, List.set_cons_succ, i64_w, i32_w]
            rfl
          refine last_ (i := 23) (N := none) #[true, true, true, true, true, true, true, true, true, true, true, true, true, true, true, true, true, true, true, true, true, true, true, true] rfl rfl (by kernel_rfl) (by decide) (fun K hK => ?_)
          have z0 := hrow
          refine skip_ (w1 := ?_) (by rfl) rfl ?_ ?_
          rotate_left
          · go_simp
            rfl
          refine hK.out _ _ ?_
          clear hK K
          refine done_ (by kernel_rfl) ?_
          -- behind 13
          clear c0 c1 c2 c3 d0 d1 d2 d3 l0 l1 l2 l3 m0 m1 m2 m3 hrow hxor
          generalize w5.drew.setRow gt #[.int .u8 (ofB x0), .int .u8 (ofB s2), .int .u8 (ofB s3), .int .u8 (ofB s0)] = w6 at *
          go_wp2_with fail
          refine (twice_calls fx0 w6).mono ?_
          rintro e w' ⟨rfl, ⟨nd, rfl⟩⟩
          have HA1 := Lib.hid (HA6.out.drewN nd)
          have HR1 := Lib.hid (HR6.out.drewN nd)
          have HK1 := Lib.hid (HK6.out.drewN nd)
          have HW1 := Lib.hid (HW6.out.drewN nd)
          have HB1 := Lib.hid (pw_below_drewN HB6.out nd)
          have HT := Lib.hid (HT6.out.drewN nd)
          clear HA6 HR6 HK6 HW6 HB6 HT6
          generalize w6.drewN nd = w7 at *
          generalize xt fx0 = fx at *
          have HFX := HFX1
          clear HFX1
          have hl2 := ld_mid HW1.out 62 ((i - 8) * 4) 4 xf _ (fun j hj => by rw [HXF.out]; exact cB_get 240 wn _ (by omega)) Try.underlying62 rfl (by kernel_rfl)
          go_wp2_with fail
          clear hl2
          generalize htt : (fun q : Nat => if q = 0 then x0 else if q = 1 then s2 else if q = 2 then s3 else s0) = tt at *
          have HTT2 : Hid (∀ q, q < 4 → tt q = tw (subN 256) (fac (i / 8 - 1)) i wn q) := fun q hq => by rw [← htt]; exact HTT.out q hq
          clear htt HTT
          obtain ⟨nw, hnw⟩ : ∃ nw : Nat → B, ∀ q, nw q = xf q ^^^ tt q := ⟨_, fun _ => rfl⟩
          have HNW := Lib.hid hnw
          clear hnw
          go_loopw [8, 9, 93, 94, 95, 96, 97, 98, 99, 100, 101, 102, 103, 104, 105, 106] (fun v8 v9 v93 v94 v95 v96 v97 v98 v99 v100 v101 v102 v103 v104 v105 v106 wl => ∃ (q : Nat), q ≤ 4 ∧ v93 = .int .i64 (q : Int) ∧ Hid (Blk.Is wl g (cB 32 key) 22) ∧ Hid (Blk.Is wl (g + 1) (cB 752 key0) 53) ∧ Hid (Blk.Is wl (g + 1 + 1) (cB 752 key2) 53) ∧ Hid (Blk.Is wl gw (cB 240 (blend wn (i * 4) q nw)) 68) ∧ Hid (Blk.Is wl gt (cB 4 tt) 62) ∧ Hid (Below g w wl)) (fun _ _ v93 _ _ _ _ _ _ _ _ _ _ _ _ _ _ => 4 - (intOf v93).toNat)
          case atStart => exact ⟨0, by omega, rfl, HA1, HR1, HK1, by rw [blend_zero]; exact HW1, HT, HB1⟩
          case round =>
            clear HA1 HR1 HK1 HW1 HT HB1
            obtain ⟨q, hq, rfl, HA, HR, HK, HW, HT, HB⟩ := hrel
            by_cases hl : q < 4
            · have hix := idx40 xf q hl wr
              have hct := HT.out.cell q
              rw [cB_get 4 tt q hl] at hct
              have hcw := HW.out.cell (i * 4 + q)
              rw [cB_get 240 _ _ (by omega)] at hcw
              have hfw := HW.out.free (i * 4 + q)
              have hxor : Go.bits .xor .u8 (ofB (xf q)) (ofB (tt q)) = ofB (nw q) := by rw [bits_xor, HNW.out]
              generalize blend wn (i * 4) q nw (i * 4 + q) = cw at *
              go_wp2_with fail
              go_region
              go_wp2_with fail
              go_roundw
              case rel =>
                refine ⟨q + 1, by omega, by go_num, HA.out.drew.other (by have := HGW.out; simp; omega) _, HR.out.drew.other (by have := HGW.out; simp; omega) _, HK.out.drew.other (by have := HGW.out; simp; omega) _, ?_, HT.out.drew.other (by have := HTW.out; simp; omega) _, HB.out.drew.setCell (by have := HGW.out; show g ≤ gw; omega) _⟩
                have h := HW.out.drew.set (i * 4 + q) (.int .u8 (ofB (nw q)))
                rw [cB_set, blend_next] at h
                exact h
              case measure => simp [intOf]; omega
            · obtain rfl : q = 4 := by omega
              go_wp2_with fail
              go_roundw
              case rel =>
                refine ⟨i + 1, by omega, by go_num, by rw [Nat.add_sub_cancel, ← HFX.out], HA.out, HR.out, HK.out, ?_, HB.out⟩
                have e : blend wn (i * 4) 4 nw = wordN key (subN 256) (i + 1) := by
                  show _ = blend (wordN key (subN 256) i) (4 * i) 4 (newWord key (subN 256) i (wordN key (subN 256) i))
                  rw [HWN.out, Nat.mul_comm]
                  exact blend_congr _ _ _ _ _ (fun q hq => by rw [HNW.out, HXF.out, HTT2.out q hq, newWord_high _ _ _ h8, Nat.mul_comm])
                rw [← e]
                exact HW.out
              case measure => simp [intOf]; omega
        · by_cases h84 : i % 8 = 4
          · have htm : Int.tmod (i : Int) 8 = 4 := by rw [Int.tmod_eq_emod_of_nonneg (by omega)]; omega
            go_wp2_with fail
            clear hl1 hst htm
            generalize wo.alloc (.cells (cB 4 tf) 62) = w5 at *
            generalize wo.heap.size = gt at *
            have hsub : ∀ q, q < 4 → w5.cell? ⟨g + 1 + 1, 240 + (ofB (tf q)).toNat, none⟩ = some (.int .u8 (ofB (subN 256 (tf q).toNat))) := fun q hq => by
              have e : (ofB (tf q)).toNat = (tf q).toNat := by simp [ofB]
              rw [HK1.out.cell, e, cB_get 752 _ _ (by have := (tf q).isLt; omega), key2_sub _ (tf q).isLt]
            have HS := Lib.hid hsub
            clear hsub
            have c0 : w5.cell? ⟨gt, 0, none⟩ = some (.int .u8 (ofB (tf 0))) := by rw [HT.out.cell, cB_get 4 tf 0 (by decide)]
            have d0 := HS.out 0 (by decide)
            have l0 := (ofB_range (tf 0)).1
            have m0 := (ofB_range (tf 0)).2
            have c1 : w5.cell? ⟨gt, 1, none⟩ = some (.int .u8 (ofB (tf 1))) := by rw [HT.out.cell, cB_get 4 tf 1 (by decide)]
            have d1 := HS.out 1 (by decide)
            have l1 := (ofB_range (tf 1)).1
            have m1 := (ofB_range (tf 1)).2
            have c2 : w5.cell? ⟨gt, 2, none⟩ = some (.int .u8 (ofB (tf 2))) := by rw [HT.out.cell, cB_get 4 tf 2 (by decide)]
            have d2 := HS.out 2 (by decide)
            have l2 := (ofB_range (tf 2)).1
            have m2 := (ofB_range (tf 2)).2
            have c3 : w5.cell? ⟨gt, 3, none⟩ = some (.int .u8 (ofB (tf 3))) := by rw [HT.out.cell, cB_get 4 tf 3 (by decide)]
            have d3 := HS.out 3 (by decide)
            have l3 := (ofB_range (tf 3)).1
            have m3 := (ofB_range (tf 3)).2
            obtain ⟨x0, hx0⟩ : ∃ x0, x0 = subN 256 (tf 0).toNat := ⟨_, rfl⟩
            have HTT : Hid (∀ q, q < 4 → (fun q : Nat => if q = 0 then x0 else if q = 1 then subN 256 (tf 1).toNat else if q = 2 then subN 256 (tf 2).toNat else subN 256 (tf 3).toNat) q = tw (subN 256) (fac (i / 8 - 1)) i wn q) := Lib.hid (tt_four (subN 256) (fac (i / 8 - 1)) i wn tf x0 h80 h84 hx0 HTF.out)
            rw [← hx0] at d0
            clear HS
            generalize subN 256 (tf 0).toNat = s0 at *
            generalize subN 256 (tf 1).toNat = s1 at *
            generalize subN 256 (tf 2).toNat = s2 at *
            generalize subN 256 (tf 3).toNat = s3 at *
            obtain ⟨hrow, ht6⟩ := st_lit4 HT.out.drew x0 s1 s2 s3
            have HT6 := Lib.hid ht6
            clear ht6
            have hkp : Keeps gt w5 (w5.drew.setRow gt #[.int .u8 (ofB x0), .int .u8 (ofB s1), .int .u8 (ofB s2), .int .u8 (ofB s3)]) := ⟨Blk.below_setRow (Below.refl _ _).drew (Nat.le_refl _) _, fun k _ hk => setRow_other w5.drew gt k _ hk⟩
            have HA6 := Lib.hid (hkp.is HA1.out (by have := HGW.out; have := HTW.out; omega))
            have HR6 := Lib.hid (hkp.is HR1.out (by have := HGW.out; have := HTW.out; omega))
            have HK6 := Lib.hid (hkp.is HK1.out (by have := HGW.out; have := HTW.out; omega))
            have HW6 := Lib.hid (hkp.is HW1.out (by have := HGW.out; have := HTW.out; omega))
            have HB6 := Lib.hid (HB1.out.trans (hkp.below.mono (by have := HGW.out; have := HTW.out; omega)))
            have HFX : Hid (fac ((i - 1) / 8) = fac (i / 8)) := by show fac _ = fac _; rw [show (i - 1) / 8 = i / 8 by omega]
            clear hx0 hkp
            have HTFn := Lib.hid (show tf = tf from rfl)
            clear HA1 HR1 HK1 HW1 HB1 HT
            generalize ofB (tf 0) = y0 at *
            generalize ofB (tf 1) = y1 at *
            generalize ofB (tf 2) = y2 at *
            generalize ofB (tf 3) = y3 at *
            generalize fac ((i - 1) / 8) = fx at *
            -- region 16
            refine start_ (n := 22) (S := fun w' => w'.cell? ⟨gt, 0, none⟩ = some (.int .u8 y0) ∧ w'.cell? ⟨gt, 1, none⟩ = some (.int .u8 y1) ∧ w'.cell? ⟨gt, 2, none⟩ = some (.int .u8 y2) ∧ w'.cell? ⟨gt, 3, none⟩ = some (.int .u8 y3) ∧ w'.cell? ⟨g + 1 + 1, 240 + y0.toNat, none⟩ = some (.int .u8 (ofB x0)) ∧ w'.cell? ⟨g + 1 + 1, 240 + y1.toNat, none⟩ = some (.int .u8 (ofB s1)) ∧ w'.cell? ⟨g + 1 + 1, 240 + y2.toNat, none⟩ = some (.int .u8 (ofB s2)) ∧ w'.cell? ⟨g + 1 + 1, 240 + y3.toNat, none⟩ = some (.int .u8 (ofB s3))) (ds := [21]) #[false, false, false, false, false, false, false, false, false, false, false, false, false, false, false, false, false, false, false, false, false, false] (by kernel_rfl) rfl rfl ⟨c0, c1, c2, c3, d0, d1, d2, d3⟩ (fun hHeld => ?_)
            refine pure_ (i := 0) (N := some 68) (v := ?_) (a' := ?_) #[true, false, false, false, false, false, false, false, false, false, false, false, false, false, false, false, false, false, false, false, false, false] rfl rfl (by kernel_rfl) (fun _ _ _ h => h) (Or.inl ⟨by rfl, ?_⟩) ?_ ?_
            rotate_left
            · intro w'
              go_simp
              with_reducible rfl
            rotate_left
            · simp only [Act.put, List.setIfInBounds_toArray, List.set_cons_zero, List.set_cons_succ, i64_w, i32_w]
              rfl
            refine pure_ (i := 2) (N := some 70) (v := ?_) (a' := ?_) #[true, false, true, false, false, false, false, false, false, false, false, false, false, false, false, false, false, false, false, false, false, false] rfl rfl (by kernel_rfl) (fun _ _ _ h => h) (Or.inl ⟨by rfl, ?_⟩) ?_ ?_
            rotate_left
            · intro w'
              go_simp
              with_reducible rfl
            rotate_left
            · simp only [Act.put, List.setIfInBounds_toArray, List.set_cons_zero, List.set_cons_succ, i64_w, i32_w]
              rfl
            refine pure_ (i := 5) (N := some 73) (v := ?_) (a' := ?_) #[true, false, true, false, false, true, false, false, false, false, false, false, false, false, false, false, false, false, false, false, false, false] rfl rfl (by kernel_rfl) (fun _ _ _ h => h) (Or.inl ⟨by rfl, ?_⟩) ?_ ?_
            rotate_left
            · intro w'
              go_simp
              with_reducible rfl
            rotate_left
            · simp only [Act.put, List.setIfInBounds_toArray, List.set_cons_zero, List.set_cons_succ, i64_w, i32_w]
              rfl
            refine pure_ (i := 7) (N := some 75) (v := ?_) (a' := ?_) #[true, false, true, false, false, true, false, true, false, false, false, false, false, false, false, false, false, false, false, false, false, false] rfl rfl (by kernel_rfl) (fun _ _ _ h => h) (Or.inl ⟨by rfl, ?_⟩) ?_ ?_
            rotate_left
            · intro w'
              go_simp
              with_reducible rfl
            rotate_left
            · simp only [Act.put, List.setIfInBounds_toArray, List.set_cons_zero, List.set_cons_succ, i64_w, i32_w]
              rfl
            refine pure_ (i := 10) (N := some 78) (v := ?_) (a' := ?_) #[true, false, true, false, false, true, false, true, false, false, true, false, false, false, false, false, false, false, false, false, false, false] rfl rfl (by kernel_rfl) (fun _ _ _ h => h) (Or.inl ⟨by rfl, ?_⟩) ?_ ?_
            rotate_left
            · intro w'
              go_simp
              with_reducible rfl
            rotate_left
            · simp only [Act.put, List.setIfInBounds_toArray, List.set_cons_zero, List.set_cons_succ, i64_w, i32_w]
              rfl
            refine pure_ (i := 12) (N := some 80) (v := ?_) (a' := ?_) #[true, false, true, false, false, true, false, true, false, false, true, false, true, false, false, false, false, false, false, false, false, false] rfl rfl (by kernel_rfl) (fun _ _ _ h => h) (Or.inl ⟨by rfl, ?_⟩) ?_ ?_
            rotate_left
            · intro w'
              go_simp
              with_reducible rfl
            rotate_left
            · simp only [Act.put, List.setIfInBounds_toArray, List.set_cons_zero, List.set_cons_succ, i64_w, i32_w]
              rfl
            refine pure_ (i := 15) (N := some 83) (v := ?_) (a' := ?_) #[true, false, true, false, false, true, false, true, false, false, true, false, true, false, false, true, false, false, false, false, false, false] rfl rfl (by kernel_rfl) (fun _ _ _ h => h) (Or.inl ⟨by rfl, ?_⟩) ?_ ?_
            rotate_left
            · intro w'
              go_simp
              with_reducible rfl
            rotate_left
            · simp only [Act.put, List.setIfInBounds_toArray, List.set_cons_zero, List.set_cons_succ, i64_w, i32_w]
              rfl
            refine pure_ (i := 17) (N := some 85) (v := ?_) (a' := ?_) #[true, false, true, false, false, true, false, true, false, false, true, false, true, false, false, true, false, true, false, false, false, false] rfl rfl (by kernel_rfl) (fun _ _ _ h => h) (Or.inl ⟨by rfl, ?_⟩) ?_ ?_
            rotate_left
            · intro w'
              go_simp
              with_reducible rfl
            rotate_left
            · simp only [Act.put, List.setIfInBounds_toArray, List.set_cons_zero, List.set_cons_succ, i64_w, i32_w]
              rfl
            refine take_ (i := 1) (N := some 69) (v := ?_) (a' := ?_) #[true, true, true, false, false, true, false, true, false, false, true, false, true, false, false, true, false, true, false, false, false, false] rfl rfl (by kernel_rfl) (fun _ _ _ h => h) (Or.inl ⟨by rfl, ?_⟩) hHeld ?_ ?_
            rotate_left
            · rintro w' ⟨s0, s1, s2, s3, s4, s5, s6, s7⟩
              go_simp
              with_reducible rfl
            rotate_left
            · simp only [Act.put, List.setIfInBounds_toArray, List.set_cons_zero, List.set_cons_succ, i64_w, i32_w]
              rfl
            refine pure_ (i := 3) (N := some 71) (v := ?_) (a' := ?_) #[true, true, true, true, false, true, false, true, false, false, true, false, true, false, false, true, false, true, false, false, false, false] rfl rfl (by kernel_rfl) (fun _ _ _ h => h) (Or.inl ⟨by rfl, ?_⟩) ?_ ?_
            rotate_left
            · intro w'
              go_simp
              with_reducible rfl
            rotate_left
            · simp only [Act.put, List.setIfInBounds_toArray, List.set_cons_zero, List.set_cons_succ, i64_w, i32_w]
              rfl
            refine take_ (i := 4) (N := some 72) (v := ?_) (a' := ?_) #[true, true, true, true, true, true, false, true, false, false, true, false, true, false, false, true, false, true, false, false, false, false] rfl rfl (by kernel_rfl) (fun _ _ _ h => h) (Or.inl ⟨by rfl, ?_⟩) hHeld ?_ ?_
            rotate_left
            · rintro w' ⟨s0, s1, s2, s3, s4, s5, s6, s7⟩
              go_simp
              with_reducible rfl
            rotate_left
            · simp only [Act.put, List.setIfInBounds_toArray, List.set_cons_zero, List.set_cons_succ, i64_w, i32_w]
              rfl
            refine take_ (i := 6) (N := some 74) (v := ?_) (a' := ?_) #[true, true, true, true, true, true, true, true, false, false, true, false, true, false, false, true, false, true, false, false, false, false] rfl rfl (by kernel_rfl) (fun _ _ _ h => h) (Or.inl ⟨by rfl, ?_⟩) hHeld ?_ ?_
            rotate_left
            · rintro w' ⟨s0, s1, s2, s3, s4, s5, s6, s7⟩
              go_simp
              with_reducible rfl
            rotate_left
            · simp only [Act.put, List.setIfInBounds_toArray, List.set_cons_zero, List.set_cons_succ, i64_w, i32_w]
              rfl
            refine pure_ (i := 8) (N := some 76) (v := ?_) (a' := ?_) #[true, true, true, true, true, true, true, true, true, false, true, false, true, false, false, true, false, true, false, false, false, false] rfl rfl (by kernel_rfl) (fun _ _ _ h => h) (Or.inl ⟨by rfl, ?_⟩) ?_ ?_
            rotate_left
            · intro w'
              go_simp
              with_reducible rfl
            rotate_left
            · simp only [Act.put, List.setIfInBounds_toArray, List.set_cons_zero, List.set_cons_succ, i64_w, i32_w]
              rfl
            refine take_ (i := 9) (N := some 77) (v := ?_) (a' := ?_) #[true, true, true, true, true, true, true, true, true, true, true, false, true, false, false, true, false, true, false, false, false, false] rfl rfl (by kernel_rfl) (fun _ _ _ h => h) (Or.inl ⟨by rfl, ?_⟩) hHeld ?_ ?_
            rotate_left
            · rintro w' ⟨s0, s1, s2, s3, s4, s5, s6, s7⟩
              go_simp
              with_reducible rfl
            rotate_left
            · simp only [Act.put, List.setIfInBounds_toArray, List.set_cons_zero, List.set_cons_succ, i64_w, i32_w]
              rfl
            refine take_ (i := 11) (N := some 79) (v := ?_) (a' := ?_) #[true, true, true, true, true, true, true, true, true, true, true, true, true, false, false, true, false, true, false, false, false, false] rfl rfl (by kernel_rfl) (fun _ _ _ h => h) (Or.inl ⟨by rfl, ?_⟩) hHeld ?_ ?_
            rotate_left
            · rintro w' ⟨s0, s1, s2, s3, s4, s5, s6, s7⟩
              go_simp
              with_reducible rfl
            rotate_left
            · simp only [Act.put, List.setIfInBounds_toArray, List.set_cons_zero, List.set_cons_succ, i64_w, i32_w]
              rfl
            refine pure_ (i := 13) (N := some 81) (v := ?_) (a' := ?_) #[true, true, true, true, true, true, true, true, true, true, true, true, true, true, false, true, false, true, false, false, false, false] rfl rfl (by kernel_rfl) (fun _ _ _ h => h) (Or.inl ⟨by rfl, ?_⟩) ?_ ?_
            rotate_left
            · intro w'
              go_simp
              with_reducible rfl
            rotate_left
            · simp only [Act.put, List.setIfInBounds_toArray, List.set_cons_zero, List.set_cons_succ, i64_w, i32_w]
              rfl
            refine take_ (i := 14) (N := some 82) (v := ?_) (a' := ?_) #[true, true, true, true, true, true, true, true, true, true, true, true, true, true, true, true, false, true, false, false, false, false] rfl rfl (by kernel_rfl) (fun _ _ _ h => h) (Or.inl ⟨by rfl, ?_⟩) hHeld ?_ ?_
            rotate_left
            · rintro w' ⟨s0, s1, s2, s3, s4, s5, s6, s7⟩
              go_simp
              with_reducible rfl
            rotate_left
            · simp only [Act.put, List.setIfInBounds_toArray, List.set_cons_zero, List.set_cons_succ, i64_w, i32_w]
              rfl
            refine take_ (i := 16) (N := some 84) (v := ?_) (a' := ?_) #[true, true, true, true, true, true, true, true, true, true, true, true, true, true, true, true, true, true, false, false, false, false] rfl rfl (by kernel_rfl) (fun _ _ _ h => h) (Or.inl ⟨by rfl, ?_⟩) hHeld ?_ ?_
            rotate_left
            · rintro w' ⟨s0, s1, s2, s3, s4, s5, s6, s7⟩
              go_simp
              with_reducible rfl
            rotate_left
            · simp only [Act.put, List.setIfInBounds_toArray, List.set_cons_zero, List.set_cons_succ, i64_w, i32_w]
              rfl
            refine pure_ (i := 18) (N := some 86) (v := ?_) (a' := ?_) #[true, true, true, true, true, true, true, true, true, true, true, true, true, true, true, true, true, true, true, false, false, false] rfl rfl (by kernel_rfl) (fun _ _ _ h => h) (Or.inl ⟨by rfl, ?_⟩) ?_ ?_
            rotate_left
            · intro w'
              go_simp
              with_reducible rfl
            rotate_left
            · simp only [Act.put, List.setIfInBounds_toArray, List.set_cons_zero, List.set_cons_succ, i64_w, i32_w]
              rfl
            refine take_ (i := 19) (N := some 87) (v := ?_) (a' := ?_) #[true, true, true, true, true, true, true, true, true, true, true, true, true, true, true, true, true, true, true, true, false, false] rfl rfl (by kernel_rfl) (fun _ _ _ h => h) (Or.inl ⟨by rfl, ?_⟩) hHeld ?_ ?_
            rotate_left
            · rintro w' ⟨s0, s1, s2, s3, s4, s5, s6, s7⟩
              go_simp
              with_reducible rfl
            rotate_left
            · simp only [Act.put, List.setIfInBounds_toArray, List.set_cons_zero, List.set_cons_succ, i64_w, i32_w]
              rfl
            refine pure_ (i := 20) (N := some 88) (v := ?_) (a' := ?_) #[true, true, true, true, true, true, true, true, true, true, true, true, true, true, true, true, true, true, true, true, true, false] rfl rfl (by kernel_rfl) (fun _ _ _ h => h) (Or.inl ⟨by rfl, ?_⟩) ?_ ?_
            rotate_left
            · intro w'
              go_simp
              with_reducible rfl
            rotate_left
            · simp only [Act.put, List.setIfInBounds_toArray, List.set_cons_zero, List.set_cons_succ, i64_w, i32_w]
              rfl
            refine last_ (i := 21) (N := none) #[true, true, true, true, true, true, true, true, true, true, true, true, true, true, true, true, true, true, true, true, true, true] rfl rfl (by kernel_rfl) (by decide) (fun K hK => ?_)
            have z0 := hrow
            refine skip_ (w1 := ?_) (by rfl) rfl ?_ ?_
            rotate_left
            · go_simp
              rfl
            refine hK.out _ _ ?_
            clear hK K
            refine done_ (by kernel_rfl) ?_
            -- behind 16
            clear c0 c1 c2 c3 d0 d1 d2 d3 l0 l1 l2 l3 m0 m1 m2 m3 hrow
            generalize w5.drew.setRow gt #[.int .u8 (ofB x0), .int .u8 (ofB s1), .int .u8 (ofB s2), .int .u8 (ofB s3)] = w6 at *
            have HA1 := HA6
            have HR1 := HR6
            have HK1 := HK6
            have HW1 := HW6
            have HB1 := HB6
            have HT := HT6
            clear HA6 HR6 HK6 HW6 HB6 HT6
            have hl2 := ld_mid HW1.out 62 ((i - 8) * 4) 4 xf _ (fun j hj => by rw [HXF.out]; exact cB_get 240 wn _ (by omega)) Try.underlying62 rfl (by kernel_rfl)
            go_wp2_with fail
            clear hl2
            generalize htt : (fun q : Nat => if q = 0 then x0 else if q = 1 then s1 else if q = 2 then s2 else s3) = tt at *
            have HTT2 : Hid (∀ q, q < 4 → tt q = tw (subN 256) (fac (i / 8 - 1)) i wn q) := fun q hq => by rw [← htt]; exact HTT.out q hq
            clear htt HTT
            obtain ⟨nw, hnw⟩ : ∃ nw : Nat → B, ∀ q, nw q = xf q ^^^ tt q := ⟨_, fun _ => rfl⟩
            have HNW := Lib.hid hnw
            clear hnw
            go_loopw [8, 9, 93, 94, 95, 96, 97, 98, 99, 100, 101, 102, 103, 104, 105, 106] (fun v8 v9 v93 v94 v95 v96 v97 v98 v99 v100 v101 v102 v103 v104 v105 v106 wl => ∃ (q : Nat), q ≤ 4 ∧ v93 = .int .i64 (q : Int) ∧ Hid (Blk.Is wl g (cB 32 key) 22) ∧ Hid (Blk.Is wl (g + 1) (cB 752 key0) 53) ∧ Hid (Blk.Is wl (g + 1 + 1) (cB 752 key2) 53) ∧ Hid (Blk.Is wl gw (cB 240 (blend wn (i * 4) q nw)) 68) ∧ Hid (Blk.Is wl gt (cB 4 tt) 62) ∧ Hid (Below g w wl)) (fun _ _ v93 _ _ _ _ _ _ _ _ _ _ _ _ _ _ => 4 - (intOf v93).toNat)
            case atStart => exact ⟨0, by omega, rfl, HA1, HR1, HK1, by rw [blend_zero]; exact HW1, HT, HB1⟩
            case round =>
              clear HA1 HR1 HK1 HW1 HT HB1
              obtain ⟨q, hq, rfl, HA, HR, HK, HW, HT, HB⟩ := hrel
              by_cases hl : q < 4
              · have hix := idx40 xf q hl wr
                have hct := HT.out.cell q
                rw [cB_get 4 tt q hl] at hct
                have hcw := HW.out.cell (i * 4 + q)
                rw [cB_get 240 _ _ (by omega)] at hcw
                have hfw := HW.out.free (i * 4 + q)
                have hxor : Go.bits .xor .u8 (ofB (xf q)) (ofB (tt q)) = ofB (nw q) := by rw [bits_xor, HNW.out]
                generalize blend wn (i * 4) q nw (i * 4 + q) = cw at *
                go_wp2_with fail
                go_region
                go_wp2_with fail
                go_roundw
                case rel =>
                  refine ⟨q + 1, by omega, by go_num, HA.out.drew.other (by have := HGW.out; simp; omega) _, HR.out.drew.other (by have := HGW.out; simp; omega) _, HK.out.drew.other (by have := HGW.out; simp; omega) _, ?_, HT.out.drew.other (by have := HTW.out; simp; omega) _, HB.out.drew.setCell (by have := HGW.out; show g ≤ gw; omega) _⟩
                  have h := HW.out.drew.set (i * 4 + q) (.int .u8 (ofB (nw q)))
                  rw [cB_set, blend_next] at h
                  exact h
                case measure => simp [intOf]; omega
              · obtain rfl : q = 4 := by omega
                go_wp2_with fail
                go_roundw
                case rel =>
                  refine ⟨i + 1, by omega, by go_num, by rw [Nat.add_sub_cancel, ← HFX.out], HA.out, HR.out, HK.out, ?_, HB.out⟩
                  have e : blend wn (i * 4) 4 nw = wordN key (subN 256) (i + 1) := by
                    show _ = blend (wordN key (subN 256) i) (4 * i) 4 (newWord key (subN 256) i (wordN key (subN 256) i))
                    rw [HWN.out, Nat.mul_comm]
                    exact blend_congr _ _ _ _ _ (fun q hq => by rw [HNW.out, HXF.out, HTT2.out q hq, newWord_high _ _ _ h8, Nat.mul_comm])
                  rw [← e]
                  exact HW.out
                case measure => simp [intOf]; omega
          · obtain ⟨z, hz⟩ : ∃ z : Nat, z = i % 8 := ⟨_, rfl⟩
            have htm : Int.tmod (i : Int) 8 = (z : Int) := by rw [Int.tmod_eq_emod_of_nonneg (by omega)]; omega
            have hz0 : ((z : Int) == 0) = false := beq_eq_false_iff_ne.mpr (by omega)
            have hz4 : ((z : Int) == 4) = false := beq_eq_false_iff_ne.mpr (by omega)
            have hl2 := ld_mid HW1.out 62 ((i - 8) * 4) 4 xf _ (fun j hj => by rw [HXF.out]; exact cB_get 240 wn _ (by omega)) Try.underlying62 rfl (by kernel_rfl)
            go_wp2_with fail
            clear hl1 hst hl2 htm hz0 hz4 hz
            generalize wo.alloc (.cells (cB 4 tf) 62) = w5 at *
            generalize wo.heap.size = gt at *
            have HTT : Hid (∀ q, q < 4 → tf q = tw (subN 256) (fac (i / 8 - 1)) i wn q) := fun q hq => by
              unfold tw
              rw [if_neg h80, if_neg h84, HTF.out, Nat.mul_comm]
            have HFX : Hid (fac ((i - 1) / 8) = fac (i / 8)) := by show fac _ = fac _; rw [show (i - 1) / 8 = i / 8 by omega]
            generalize fac ((i - 1) / 8) = fx at *
            generalize tf = tt at *
            obtain ⟨nw, hnw⟩ : ∃ nw : Nat → B, ∀ q, nw q = xf q ^^^ tt q := ⟨_, fun _ => rfl⟩
            have HNW := Lib.hid hnw
            clear hnw
            go_loopw [8, 9, 93, 94, 95, 96, 97, 98, 99, 100, 101, 102, 103, 104, 105, 106] (fun v8 v9 v93 v94 v95 v96 v97 v98 v99 v100 v101 v102 v103 v104 v105 v106 wl => ∃ (q : Nat), q ≤ 4 ∧ v93 = .int .i64 (q : Int) ∧ Hid (Blk.Is wl g (cB 32 key) 22) ∧ Hid (Blk.Is wl (g + 1) (cB 752 key0) 53) ∧ Hid (Blk.Is wl (g + 1 + 1) (cB 752 key2) 53) ∧ Hid (Blk.Is wl gw (cB 240 (blend wn (i * 4) q nw)) 68) ∧ Hid (Blk.Is wl gt (cB 4 tt) 62) ∧ Hid (Below g w wl)) (fun _ _ v93 _ _ _ _ _ _ _ _ _ _ _ _ _ _ => 4 - (intOf v93).toNat)
            case atStart => exact ⟨0, by omega, rfl, HA1, HR1, HK1, by rw [blend_zero]; exact HW1, HT, HB1⟩
            case round =>
              clear HA1 HR1 HK1 HW1 HT HB1
              obtain ⟨q, hq, rfl, HA, HR, HK, HW, HT, HB⟩ := hrel
              by_cases hl : q < 4
              · have hix := idx40 xf q hl wr
                have hct := HT.out.cell q
                rw [cB_get 4 tt q hl] at hct
                have hcw := HW.out.cell (i * 4 + q)
                rw [cB_get 240 _ _ (by omega)] at hcw
                have hfw := HW.out.free (i * 4 + q)
                have hxor : Go.bits .xor .u8 (ofB (xf q)) (ofB (tt q)) = ofB (nw q) := by rw [bits_xor, HNW.out]
                generalize blend wn (i * 4) q nw (i * 4 + q) = cw at *
                go_wp2_with fail
                go_region
                go_wp2_with fail
                go_roundw
                case rel =>
                  refine ⟨q + 1, by omega, by go_num, HA.out.drew.other (by have := HGW.out; simp; omega) _, HR.out.drew.other (by have := HGW.out; simp; omega) _, HK.out.drew.other (by have := HGW.out; simp; omega) _, ?_, HT.out.drew.other (by have := HTW.out; simp; omega) _, HB.out.drew.setCell (by have := HGW.out; show g ≤ gw; omega) _⟩
                  have h := HW.out.drew.set (i * 4 + q) (.int .u8 (ofB (nw q)))
                  rw [cB_set, blend_next] at h
                  exact h
                case measure => simp [intOf]; omega
              · obtain rfl : q = 4 := by omega
                go_wp2_with fail
                go_roundw
                case rel =>
                  refine ⟨i + 1, by omega, by go_num, by rw [Nat.add_sub_cancel, ← HFX.out], HA.out, HR.out, HK.out, ?_, HB.out⟩
                  have e : blend wn (i * 4) 4 nw = wordN key (subN 256) (i + 1) := by
                    show _ = blend (wordN key (subN 256) i) (4 * i) 4 (newWord key (subN 256) i (wordN key (subN 256) i))
                    rw [HWN.out, Nat.mul_comm]
                    exact blend_congr _ _ _ _ _ (fun q hq => by rw [HNW.out, HXF.out, HTT.out q hq, newWord_high _ _ _ h8, Nat.mul_comm])
                  rw [← e]
                  exact HW.out
                case measure => simp [intOf]; omega
    · obtain rfl : i = 60 := by omega
      have hlw := Blk.load_row HW.out (P := Try.prog) (t := 68) Try.underlying68 rfl (by rw [cB_size]; kernel_rfl)
      have HKY := Lib.hid (show keyK key = blend key2 0 240 (wordN key (subN 256) 60) from rfl)
      generalize wordN key (subN 256) 60 = wf at *
      clear HA
      have HK0 : Hid (Blk.Is wo (g + 1 + 1) (cB 752 (blend key2 0 (4 * 0) wf)) 53) := by rw [Nat.mul_zero, blend_zero]; exact HK.out
      clear HK
      go_wp2_with fail
      clear hlw
      generalize fac ((60 - 1) / 8) = fx at *
      go_loopw [10, 11, 109, 110, 111, 112, 113, 114, 115, 116, 117, 118, 119, 120, 121, 122, 123] (fun v10 v11 v109 v110 v111 v112 v113 v114 v115 v116 v117 v118 v119 v120 v121 v122 v123 wl => ∃ (k : Nat), k ≤ 60 ∧ v109 = .int .i64 (k : Int) ∧ Hid (Blk.Is wl (g + 1) (cB 752 key0) 53) ∧ Hid (Blk.Is wl (g + 1 + 1) (cB 752 (blend key2 0 (4 * k) wf)) 53) ∧ Hid (Below g w wl)) (fun _ _ v109 _ _ _ _ _ _ _ _ _ _ _ _ _ _ _ => 60 - (intOf v109).toNat)
      case atStart => exact ⟨0, by omega, rfl, HR, HK0, HB⟩
      case round =>
        clear HR HK0 HB HW
        obtain ⟨k, hk, rfl, HR, HK, HB⟩ := hrel
        by_cases hlt : k < 60
        · obtain ⟨z, hz⟩ : ∃ z : Nat, z = k / 4 := ⟨_, rfl⟩
          obtain ⟨y, hy⟩ : ∃ y : Nat, y = k % 4 := ⟨_, rfl⟩
          have htd : Int.tdiv (k : Int) 4 = (z : Int) := by rw [Int.tdiv_eq_ediv_of_nonneg (by omega)]; omega
          have htm : Int.tmod (k : Int) 4 = (y : Int) := by rw [Int.tmod_eq_emod_of_nonneg (by omega)]; omega
          have HZY := Lib.hid (show k = 4 * z + y by omega)
          have hz15 : z < 15 := by omega
          have hy4 : y < 4 := by omega
          clear hz hy
          have hix := idx41 wf k hlt wr
          obtain ⟨xf, hxf⟩ : ∃ xf : Nat → B, (fun q => wf (4 * k + q)) = xf := ⟨_, rfl⟩
          rw [hxf] at hix
          have hst := st4_new wr xf
          have HT := Lib.hid (Blk.Is.new wr (cB 4 xf) 62)
          have HN := Lib.hid (show g + 1 + 1 < wr.heap.size from HK.out.lt)
          have HR1 := Lib.hid (HR.out.alloc (.cells (cB 4 xf) 62))
          have HK1 := Lib.hid (HK.out.alloc (.cells (cB 4 xf) 62))
          have HB1 := Lib.hid (HB.out.alloc (by have := HN.out; omega) (.cells (cB 4 xf) 62))
          have HXF := Lib.hid hxf
          clear hxf HR HK HB
          go_wp2_with fail
          clear hix hst
          generalize wr.alloc (.cells (cB 4 xf) 62) = w5 at *
          generalize wr.heap.size = gt at *
          have hc := cut16 (g + 1 + 1) (z * 16) (4 * y) (by omega) w5.drew
          rw [show ((4 * y : Nat) : Int) = 4 * (y : Int) by omega] at hc
          obtain ⟨w6, hcp, hK6, hP6⟩ := cp_mid HK1.out.drew (z * 16 + 4 * y) 4 (16 - 4 * y) (16 - 4 * y) (by omega) (by omega) HT.out.drew (by omega) 4 24 24 3 5 Try.underlying24 (by kernel_rfl)
          have HR6 := Lib.hid (hP6.is HR1.out.drew (by omega))
          have HB6 := Lib.hid (HB1.out.drew.trans (hP6.below.mono (by omega)))
          have HK6 := Lib.hid hK6
          clear hK6 hP6
          go_region
          clear hc hcp
          go_wp2_with fail
          go_roundw
          case rel =>
            refine ⟨k + 1, by omega, by go_num, HR6, ?_, HB6⟩
            have h := HK6.out
            rw [← HXF.out, blend_four key2 wf k (z * 16 + 4 * y) (by have := HZY.out; omega)] at h
            exact h
          case measure => simp [intOf]; omega
        · obtain rfl : k = 60 := by omega
          obtain ⟨kk, hkk⟩ : ∃ kk, kk = keyK key := ⟨_, rfl⟩
          have HKE : Hid (Blk.Is wr (g + 1 + 1) (cB 752 kk) 53) := by rw [hkk, HKY.out]; exact HK.out
          have HKK := Lib.hid hkk
          clear HKY HK hkk
          have hlk := Blk.load_row HKE.out (P := Try.prog) (t := 53) Try.underlying53 rfl (by rw [cB_size]; kernel_rfl)
          have hsr := Blk.store_row (P := Try.prog) (t := 53) (cB 752 kk) HR.out (by rw [cB_size]; kernel_rfl) (by rw [cB_size, cB_size]) (cB_one _ _)
          have HR7 := Lib.hid (HR.out.setRow (cB 752 kk))
          have HB7 := Lib.hid (Blk.below_setRow HB.out (show g ≤ g + 1 by omega) (cB 752 kk))
          go_wp2_with fail
          refine bodyPost_ret (results_cell_row rfl _ _ (g + 1) 53 (cB 752 kk) (0, 0) _ rfl HR7.out Try.underlying53 rfl (by rw [cB_size]; kernel_rfl)) rfl ?_
          exact ⟨by rw [HKK.out], by rw [HGE.out]; exact HB7.out⟩
end Go.Proofs.Ytbebmbcjddibaaa.Aes
