/- What is said here: what the Go functions named below answer, each as a plain function with the proof that its call comes to that answer; written by a program out of the translation. No condition. -/
import Derived.Test.YtglnepokollijaaPTx0
import Derived.Test.YtglnepokollijaaPTx1
namespace Go.Proofs.Ytglnepokollijaa.PT
open Go.RowKit Go.Proofs.YtglnepokollijaaW.PrintWords Go.Proofs.YtglnepokollijaaW.PrintLast Go.Proofs.YtglnepokollijaaW.PrintMore
attribute [local go_sem] max2_int min2_int max_two min_two max_three min_three max_four min_four   -- for this text's walks alone
set_option linter.unusedVariables false
set_option linter.unusedSimpArgs false

/-! ### ciboriumlaw04_works: function 8 -/
def ciboriumlaw04_works.j0 : Nat → List (S44) → Bool → Option (Bool)
  | 0, _, _ => none
  | k + 1, x1, x33 => if x33 = true then (some false) else (if 2 < (x1.length : Int) then (if 0 < (x1.length : Int) then ((share_Combine.f (([(⟨(rd_T44 x1 2).f0, (rd_T44 x1 2).f1⟩ : S44), (⟨(rd_T44 x1 0).f0, (rd_T44 x1 0).f1⟩ : S44)] : List (S44)))).bind fun bt125 => (if bt125.2 = 0 then (if (bt125.1.length : Int) = 1 then (if 0 < (bt125.1.length : Int) then (if (rd bt125.1 0) = 66 then ((share_Text.f ((rd_T44 x1 2).f0) ((rd_T44 x1 2).f1)).bind fun t131 => (some (t131.toList == ([48, 51, 52, 49] : List UInt8)))) else (some false)) else (none)) else (some false)) else (some false))) else (none)) else (none))
def ciboriumlaw04_works.f (k : Nat)  : Option (Bool) := (share_Split.f (([66] : List Int)) 3 2 (([1] : List Int))).bind fun bt113 => (if bt113.2 = 0 then (if (bt113.1.length : Int) = 3 then (if 2 < (bt113.1.length : Int) then (if (((rd_T44 bt113.1 2).f1).length : Int) = 1 then (if 0 < (((rd_T44 bt113.1 2).f1).length : Int) then (ciboriumlaw04_works.j0 k bt113.1 ((rd ((rd_T44 bt113.1 2).f1) 0) != 65)) else (none)) else (ciboriumlaw04_works.j0 k bt113.1 true)) else (none)) else (ciboriumlaw04_works.j0 k bt113.1 true)) else (ciboriumlaw04_works.j0 k bt113.1 true))
theorem ciboriumlaw04_works.mono_l : ∀ k, (∀ y0 y1, LeO (ciboriumlaw04_works.j0 k y0 y1) (ciboriumlaw04_works.j0 (k + 1) y0 y1))
  | 0 => fun _ _ r h => by simp [ciboriumlaw04_works.j0] at h
  | k + 1 => by
    have ih0 := ciboriumlaw04_works.mono_l k
    · intro y0 y1
      unfold ciboriumlaw04_works.j0
      repeat' first
      | (with_reducible exact ih0 _ _)
      | (with_reducible exact LeO.refl _)
      | (with_reducible exact LeO.none _)
      | (with_reducible refine LeO.ite ?_ ?_)
      | (with_reducible refine LeO.bind ?_ (fun _ => ?_))
      | exact ih0 _ _
      | exact LeO.none _
      | refine LeO.ite ?_ ?_
      | refine LeO.bind ?_ (fun _ => ?_)
theorem ciboriumlaw04_works.mono : ∀ k, LeO (ciboriumlaw04_works.f k ) (ciboriumlaw04_works.f (k + 1) ) := by
  intro  k
  have ih0 := ciboriumlaw04_works.mono_l k
  unfold ciboriumlaw04_works.f
  repeat' first
      | (with_reducible exact ih0 _ _)
      | (with_reducible exact LeO.refl _)
      | (with_reducible exact LeO.none _)
      | (with_reducible refine LeO.ite ?_ ?_)
      | (with_reducible refine LeO.bind ?_ (fun _ => ?_))
      | exact ih0 _ _
      | exact LeO.none _
      | refine LeO.ite ?_ ?_
      | refine LeO.bind ?_ (fun _ => ?_)
def ciboriumlaw04_works.T4 : Bool × List (List Nat × List Nat) := (true, [([], []), ([0], [0]), ([1], [1]), ([], []), ([3], [3]), ([4], [4]), ([2, 5], [2, 5]), ([6], [6]), ([7], [7]), ([8], [8]), ([8], [8]), ([9, 7, 0, 1, 2, 3, 4, 5, 6, 7, 8, 9], [9]), ([10, 11, 0, 1, 2, 3, 4, 5, 6, 7, 8, 9, 10, 11], [10])])
def ciboriumlaw04_works.B4 : List Nat := [0, 1, 3, 0, 8, 24, 63, 127, 255, 511, 511, 1023, 4095]
theorem ciboriumlaw04_works.tab4 : rtab .any (opsOf Try.f8 4) = ciboriumlaw04_works.T4 := by kernel_rfl
theorem ciboriumlaw04_works.bits4 : waitsOk ciboriumlaw04_works.T4.2 ciboriumlaw04_works.B4 = true := by kernel_rfl
set_option maxHeartbeats 8000000 in
set_option maxRecDepth 100000 in
theorem ciboriumlaw04_works.calls (k : Nat)  (r : Bool) (w : World) (h : ciboriumlaw04_works.f k  = some r) :
    Calls Try.prog 8 #[] w fun e w' => e = .returned (.bool r) ∧ Below w.heap.size w w' := by
  have hu44 := Try.underlying44
  have HB := Aside0.mk (Below.refl w.heap.size w)
  have H : ((share_Split.f (([66] : List Int)) 3 2 (([1] : List Int))).bind fun bt113 => (if bt113.2 = 0 then (if (bt113.1.length : Int) = 3 then (if 2 < (bt113.1.length : Int) then (if (((rd_T44 bt113.1 2).f1).length : Int) = 1 then (if 0 < (((rd_T44 bt113.1 2).f1).length : Int) then (ciboriumlaw04_works.j0 k bt113.1 ((rd ((rd_T44 bt113.1 2).f1) 0) != 65)) else (none)) else (ciboriumlaw04_works.j0 k bt113.1 true)) else (none)) else (ciboriumlaw04_works.j0 k bt113.1 true)) else (ciboriumlaw04_works.j0 k bt113.1 true))) = some r := h
  clear h
  obtain ⟨y107, hy107⟩ : ∃ y_ : List Int, y_ = (([66] : List Int)) := ⟨_, rfl⟩
  replace H : ((share_Split.f y107 3 2 (([1] : List Int))).bind fun bt113 => (if bt113.2 = 0 then (if (bt113.1.length : Int) = 3 then (if 2 < (bt113.1.length : Int) then (if (((rd_T44 bt113.1 2).f1).length : Int) = 1 then (if 0 < (((rd_T44 bt113.1 2).f1).length : Int) then (ciboriumlaw04_works.j0 k bt113.1 ((rd ((rd_T44 bt113.1 2).f1) 0) != 65)) else (none)) else (ciboriumlaw04_works.j0 k bt113.1 true)) else (none)) else (ciboriumlaw04_works.j0 k bt113.1 true)) else (ciboriumlaw04_works.j0 k bt113.1 true))) = some r := by first | (rw [hy107]; with_reducible exact H) | (have H2_ := (Option.bind_some _ _).symm.trans H; rw [hy107]; with_reducible exact H2_) | (have H2_ := (Option.bind_some _ _).symm.trans H; with_reducible exact H2_) | with_reducible exact H | (rw [hy107]; exact H) | exact H
  have Ny107 := Aside0.mk hy107
  clear hy107
  obtain ⟨y110, hy110⟩ : ∃ y_ : List Int, y_ = (([1] : List Int)) := ⟨_, rfl⟩
  replace H : ((share_Split.f y107 3 2 y110).bind fun bt113 => (if bt113.2 = 0 then (if (bt113.1.length : Int) = 3 then (if 2 < (bt113.1.length : Int) then (if (((rd_T44 bt113.1 2).f1).length : Int) = 1 then (if 0 < (((rd_T44 bt113.1 2).f1).length : Int) then (ciboriumlaw04_works.j0 k bt113.1 ((rd ((rd_T44 bt113.1 2).f1) 0) != 65)) else (none)) else (ciboriumlaw04_works.j0 k bt113.1 true)) else (none)) else (ciboriumlaw04_works.j0 k bt113.1 true)) else (ciboriumlaw04_works.j0 k bt113.1 true))) = some r := by first | (rw [hy110]; with_reducible exact H) | (have H2_ := (Option.bind_some _ _).symm.trans H; rw [hy110]; with_reducible exact H2_) | (have H2_ := (Option.bind_some _ _).symm.trans H; with_reducible exact H2_) | with_reducible exact H | (rw [hy110]; exact H) | exact H
  have Ny110 := Aside0.mk hy110
  clear hy110
  replace H := Option.bind_eq_some_iff.mp H
  obtain ⟨⟨t113, t114⟩, A10, H⟩ := H
  replace H : (if t114 = 0 then (if (t113.length : Int) = 3 then (if 2 < (t113.length : Int) then (if (((rd_T44 t113 2).f1).length : Int) = 1 then (if 0 < (((rd_T44 t113 2).f1).length : Int) then (ciboriumlaw04_works.j0 k t113 ((rd ((rd_T44 t113 2).f1) 0) != 65)) else (none)) else (ciboriumlaw04_works.j0 k t113 true)) else (none)) else (ciboriumlaw04_works.j0 k t113 true)) else (ciboriumlaw04_works.j0 k t113 true)) = some r := H
  have A1 := Aside0.mk A10
  clear A10
  have HC2 := Aside0.mk H
  clear H
  go_enter Try.func8, Try.ntmps8
  go_upto_region 2 with (first | ((with_reducible refine gate_dst (N := 5) rfl ?_); (try (refine gate_guard (by rfl) ?_; dsimp only)); refine Kd.R_lit (Kd.int .u8) _ 5 ?hg (N := 5) ?hd (xs := ([66] : List Int)) (inner := [.int .u8 66]) (ok := fun _ => True) (okp := fun _ => True) ?hr ?hp (fun _ hk => hk) trivial (Below.refl _ _) (Nat.le_refl _) (by simp) ?_; (case hd => rfl); (case hg => rfl); (case hr => first | (go_simp; done) | (go_simp; rfl)); (case hp => exact (Reps.one (show Kd.M (Kd.int .u8) _ _ _ 66 [.int .u8 66] from rfl) (Reps.none _ _))); intro v108 w3 ho4 hb hg_ hnew_; clear hg_ hnew_; (first | rw [← Ny107.out] at ho4 | (simp only [Int.reduceToNat] at ho4; rw [← Ny107.out] at ho4)); have n0_ := Aside0.mk (Kd.R_lower ho4 (below_size (by repeat (first | (with_reducible first | exact HB.out | apply below_alloc | apply pw_below_drewN | apply below_drew1) | exact HB.out)))); have n1_ := Aside0.mk (below_step (by repeat (first | (with_reducible first | exact HB.out | apply below_alloc | apply pw_below_drewN | apply below_drew1) | exact HB.out)) hb); clear HB; have HO109 := n0_; have HB := n1_; clear n0_ n1_; clear hb ho4) | ((with_reducible refine gate_dst (N := 6) rfl ?_); (try (refine gate_guard (by rfl) ?_; dsimp only)); refine Kd.R_lit (Kd.int .u8) _ 5 ?hg (N := 6) ?hd (xs := ([1] : List Int)) (inner := [.int .u8 1]) (ok := fun _ => True) (okp := fun _ => True) ?hr ?hp (fun _ hk => hk) trivial (Below.refl _ _) (Nat.le_refl _) (by simp) ?_; (case hd => rfl); (case hg => rfl); (case hr => first | (go_simp; done) | (go_simp; rfl)); (case hp => exact (Reps.one (show Kd.M (Kd.int .u8) _ _ _ 1 [.int .u8 1] from rfl) (Reps.none _ _))); intro v111 w5 ho6 hb hg_ hnew_; clear hg_ hnew_; (first | rw [← Ny110.out] at ho6 | (simp only [Int.reduceToNat] at ho6; rw [← Ny110.out] at ho6)); have n0_ := Aside0.mk (Kd.R_elder' (by (with_reducible repeat (first | apply Kd.R_alloc | apply Kd.R_drewN | apply Kd.R_drew)); exact HO109.out) (Kd.R_base ho6) hb); have n1_ := Aside0.mk (Kd.R_lower (Kd.R_new' ho6 (Kd.R_lt (by (with_reducible repeat (first | apply Kd.R_alloc | apply Kd.R_drewN | apply Kd.R_drew)); exact HO109.out))) (below_size (by repeat (first | (with_reducible first | exact HB.out | apply below_alloc | apply pw_below_drewN | apply below_drew1) | exact HB.out)))); have n2_ := Aside0.mk (below_step (by repeat (first | (with_reducible first | exact HB.out | apply below_alloc | apply pw_below_drewN | apply below_drew1) | exact HB.out)) hb); clear HO109; clear HB; have HO109 := n0_; have HO112 := n1_; have HB := n2_; clear n0_ n1_ n2_; clear hb ho6; obtain ⟨Ao7, co7, eo7⟩ := Kd.R_slice HO109.out; subst eo7; obtain ⟨Ao8, co8, eo8⟩ := Kd.R_slice HO112.out; subst eo8) | ((with_reducible refine gate_callee (f := 10) rfl ?_); refine goesL_ (some 7) rfl rfl Try.func10 (by kernel_rfl) rfl #[.slice Ao7 y107.length co7, .int .i64 3, .int .i64 2, .slice Ao8 y110.length co8] rfl (by (try simp only [List.map_toArray, List.map_cons, List.map_nil]); first | done | rfl | (simp only [List.length_drop, List.length_take]; rfl)) ?_; (with_reducible refine (share_Split.calls _ _ y107 3 2 _ _ y110 t113 t114 _ ?side1 ?side2 ?side3 ?side4 A1.out).mono ?_); (case side1 => repeat (first | exact (Kd.R_reads' HO109.out).2.2 | (with_reducible refine Kd.C_alloc ?_ _) | (with_reducible refine Kd.C_drewN ?_ _) | (with_reducible refine Kd.C_drew ?_))); (case side2 => exact (Kd.R_reads' HO109.out).2.1); (case side3 => repeat (first | exact (Kd.R_reads' HO112.out).2.2 | (with_reducible refine Kd.C_alloc ?_ _) | (with_reducible refine Kd.C_drewN ?_ _) | (with_reducible refine Kd.C_drew ?_))); (case side4 => exact (Kd.R_reads' HO112.out).2.1); rintro e w9 ⟨v115, rfl, ho0, hb⟩; refine ⟨_, rfl, ?_⟩; have n0_ := Aside0.mk (Kd.R_below (by (with_reducible repeat (first | apply Kd.R_alloc | apply Kd.R_drewN | apply Kd.R_drew)); exact HO109.out) hb); have n1_ := Aside0.mk (Kd.R_below (by (with_reducible repeat (first | apply Kd.R_alloc | apply Kd.R_drewN | apply Kd.R_drew)); exact HO112.out) hb); have n2_ := Aside0.mk (Kd.N_lower (Kd.N_mono (ok' := fun k_ => some k_ ≠ (.slice Ao7 y107.length co7 : Value).ownBlock ∧ some k_ ≠ (.slice Ao8 y110.length co8 : Value).ownBlock) (Kd.S_N (Kd.S_bound ho0)) (fun k_ hk_ => ⟨(Kd.fresh' (Kd.R_lt (by (with_reducible repeat (first | apply Kd.R_alloc | apply Kd.R_drewN | apply Kd.R_drew)); exact HO109.out)) k_ hk_.2.1), (Kd.fresh' (Kd.R_lt (by (with_reducible repeat (first | apply Kd.R_alloc | apply Kd.R_drewN | apply Kd.R_drew)); exact HO112.out)) k_ hk_.2.1)⟩)) (below_size (by repeat (first | (with_reducible first | exact HB.out | apply below_alloc | apply pw_below_drewN | apply below_drew1) | exact HB.out)))); have n3_ := Aside0.mk (below_step (by repeat (first | (with_reducible first | exact HB.out | apply below_alloc | apply pw_below_drewN | apply below_drew1) | exact HB.out)) hb); clear HO109; clear HO112; clear HB; have HO109 := n0_; have HO112 := n1_; have HO116 := n2_; have HB := n3_; clear n0_ n1_ n2_ n3_; (try clear hb); (try clear hb2); (try clear hk); (try clear hi); (try clear ho0)))
  (try simp only [Act.put, List.setIfInBounds_toArray, List.set_cons_zero, List.set_cons_succ])
  go_cut [33] (fun v33 wc => ∃ (kq : Nat) (x33_1 : Bool), v33 = .bool x33_1 ∧ Aside0 (ciboriumlaw04_works.j0 kq t113 x33_1 = some r) ∧ Aside0 (kq ≤ k) ∧ Aside0 (Kd.N k44 44 wc w.heap.size (fun _ => True) v115 t113) ∧ Aside0 (Below w.heap.size w wc))
  case first =>
    have H := HC2.out
    clear HC2
    by_cases c10 : t114 = 0
    · rw [if_pos c10] at H
      have c10b0 : (t114 == 0) = true := beq_iff_eq.mpr c10
      have c10b1 : (t114 != 0) = false := bne_eq_false_iff_eq.mpr c10
      clear c10
      (first | rw [c10b0] | (simp only [i64_w, i32_w]; rw [c10b0]) | skip)
      by_cases c11 : (t113.length : Int) = 3
      · rw [if_pos c11] at H
        have c11b0 : ((t113.length : Int) == 3) = true := beq_iff_eq.mpr c11
        have c11b1 : ((t113.length : Int) != 3) = false := bne_eq_false_iff_eq.mpr c11
        clear c11
        by_cases c12 : 2 < (t113.length : Int)
        · rw [if_pos c12] at H
          have c12b0 : decide (2 < (t113.length : Int)) = true := decide_eq_true c12
          have c12b1 : decide (2 < t113.length) = true := decide_eq_true (by omega)
          clear c12
          by_cases c13 : (((rd_T44 t113 2).f1).length : Int) = 1
          · rw [if_pos c13] at H
            have c13b0 : ((((rd_T44 t113 2).f1).length : Int) == 1) = true := beq_iff_eq.mpr c13
            have c13b1 : ((((rd_T44 t113 2).f1).length : Int) != 1) = false := bne_eq_false_iff_eq.mpr c13
            clear c13
            by_cases c14 : 0 < (((rd_T44 t113 2).f1).length : Int)
            · rw [if_pos c14] at H
              have c14b0 : decide (0 < (((rd_T44 t113 2).f1).length : Int)) = true := decide_eq_true c14
              have c14b1 : decide (0 < ((rd_T44 t113 2).f1).length) = true := decide_eq_true (by omega)
              clear c14
              have H' := Aside0.mk H
              clear H
              obtain ⟨Ao15, co15, eo15⟩ := Kd.N_slice HO116.out
              subst eo15
              have p117 : 0 ≤ (2 : Int) := (by omega)
              have q117 : 2 < (t113.length : Int) := of_decide_eq_true (by first | (with_reducible assumption) | assumption)
              obtain ⟨ad117, A117_1, c117_1, e117, hx117_0, hx117_1, hl117_1, hi117_1⟩ := at_T44 (Kd.N_reads' HO116.out).2.2 2 p117 q117
              cases e117
              obtain ⟨ce117, hce117, hMe117, hcc117⟩ := Kd.N_get HO116.out z44 2 p117 (by first | exact q117 | exact of_decide_eq_true (by first | (with_reducible assumption) | assumption) | (have e_ := (Kd.N_reads' HO116.out).1; omega))
              obtain ⟨ua117_1, uc117_1, rfl, ul117_1, ge117_1⟩ := k44_openF hMe117
              have hv117_1 := hcc117 1 _ rfl
              rw [add_field _ _ 1 (by omega)] at hv117_1
              replace hv117_1 := Option.some.inj (hv117_1.symm.trans hx117_1)
              injection hv117_1 with hva_ hvn_ hvc_
              rw [hva_] at ge117_1
              rw [hvc_] at ul117_1
              have HL117_1 := Aside0.mk (show Kd.V (Kd.int .u8) 5 _ w.heap.size _ _ ((rd_T44 t113 2).f1) from Kd.V_mk ul117_1 ge117_1)
              clear hva_ hvn_ hvc_ ge117_1 ul117_1
              clear hcc117 hce117
              (try simp only [show (2 : Int).toNat = 2 from rfl, Nat.reduceMul, Nat.reduceEqDiff, Go.Addr.add, ↓reduceIte] at hx117_0)
              (try simp only [show (2 : Int).toNat = 2 from rfl, Nat.reduceMul, Nat.reduceEqDiff, Go.Addr.add, ↓reduceIte] at hx117_1)
              have qi117 : (2 < t113.length) = True := eq_true (by omega)
              (try rw [show ((2 : Int)).toNat = 2 from rfl] at hx117_0)
              (try rw [show 2 * 2 = 4 from rfl] at hx117_0)
              (try rw [show ((2 : Int)).toNat = 2 from rfl] at hx117_1)
              (try rw [show 2 * 2 = 4 from rfl] at hx117_1)
              have HR117_1 := Aside0.mk hi117_1
              have HC117_1 := Aside0.mk hl117_1
              clear hi117_1 hl117_1
              replace p117 := eq_true p117
              replace q117 := eq_true q117
              have p118 : 0 ≤ (2 : Int) := (by omega)
              have q118 : 2 < (t113.length : Int) := of_decide_eq_true (by first | (with_reducible assumption) | assumption)
              obtain ⟨ad118, A118_1, c118_1, e118, hx118_0, hx118_1, hl118_1, hi118_1⟩ := at_T44 (Kd.N_reads' HO116.out).2.2 2 p118 q118
              obtain rfl : ad117 = ad118 := (by injection e118)
              obtain ⟨ce118, hce118, hMe118, hcc118⟩ := Kd.N_get HO116.out z44 2 p118 (by first | exact q118 | exact of_decide_eq_true (by first | (with_reducible assumption) | assumption) | (have e_ := (Kd.N_reads' HO116.out).1; omega))
              obtain ⟨ua118_1, uc118_1, rfl, ul118_1, ge118_1⟩ := k44_openF hMe118
              have hv118_1 := hcc118 1 _ rfl
              rw [add_field _ _ 1 (by omega)] at hv118_1
              replace hv118_1 := Option.some.inj (hv118_1.symm.trans hx118_1)
              injection hv118_1 with hva_ hvn_ hvc_
              rw [hva_] at ge118_1
              rw [hvc_] at ul118_1
              have HL118_1 := Aside0.mk (show Kd.V (Kd.int .u8) 5 _ w.heap.size _ _ ((rd_T44 t113 2).f1) from Kd.V_mk ul118_1 ge118_1)
              clear hva_ hvn_ hvc_ ge118_1 ul118_1
              clear hcc118 hce118
              (try simp only [show (2 : Int).toNat = 2 from rfl, Nat.reduceMul, Nat.reduceEqDiff, Go.Addr.add, ↓reduceIte] at hx118_0)
              (try simp only [show (2 : Int).toNat = 2 from rfl, Nat.reduceMul, Nat.reduceEqDiff, Go.Addr.add, ↓reduceIte] at hx118_1)
              have qi118 : (2 < t113.length) = True := eq_true (by omega)
              (try rw [show ((2 : Int)).toNat = 2 from rfl] at hx118_0)
              (try rw [show 2 * 2 = 4 from rfl] at hx118_0)
              (try rw [show ((2 : Int)).toNat = 2 from rfl] at hx118_1)
              (try rw [show 2 * 2 = 4 from rfl] at hx118_1)
              have HR118_1 := Aside0.mk hi118_1
              have HC118_1 := Aside0.mk hl118_1
              clear hi118_1 hl118_1
              replace p118 := eq_true p118
              replace q118 := eq_true q118
              have ea_ := Option.some.inj (hx117_1.symm.trans hx118_1)
              injection ea_ with ea_ en_ ec_
              subst ea_
              subst ec_
              clear en_
              have p119 : 0 ≤ (0 : Int) := (by omega)
              have q119 : 0 < (((rd_T44 t113 2).f1).length : Int) := of_decide_eq_true (by first | (with_reducible assumption) | assumption)
              obtain ⟨ad119, e119, hx119_0⟩ := Kd.at_int (by repeat (first | (with_reducible exact HR118_1.out) | (with_reducible refine Kd.C_alloc ?_ _) | (with_reducible refine Kd.C_drewN ?_ _) | (with_reducible refine Kd.C_drew ?_) | exact HR118_1.out)) 0 p119 q119
              cases e119
              have qi119 : (0 < ((rd_T44 t113 2).f1).length) = True := eq_true (by omega)
              (try rw [show ((0 : Int)).toNat = 0 from rfl] at hx119_0)
              (try rw [Addr.add_zero'] at hx119_0)
              replace p119 := eq_true p119
              replace q119 := eq_true q119
              go_wp2
              go_meet
              case rel => exact ⟨_, (((rd ((rd_T44 t113 2).f1) 0) != 65)), (by first | rfl | (simp; done) | (simp [*]; done)), H', ⟨by first | omega | exact Nat.le_refl _⟩, ⟨by (with_reducible repeat (first | apply Kd.N_alloc | apply Kd.N_drewN | apply Kd.N_drew)); exact Kd.N_mono HO116.out (fun _ hk => trivial)⟩, ⟨by repeat (first | (with_reducible first | exact HB.out | apply below_alloc | apply pw_below_drewN | apply below_drew1) | exact HB.out)⟩⟩
            · rw [if_neg c14] at H
              exact absurd H (by simp)
          · rw [if_neg c13] at H
            have c13b0 : ((((rd_T44 t113 2).f1).length : Int) == 1) = false := beq_eq_false_iff_ne.mpr c13
            have c13b1 : ((((rd_T44 t113 2).f1).length : Int) != 1) = true := bne_iff_ne.mpr c13
            have H' := Aside0.mk H
            clear H
            obtain ⟨Ao16, co16, eo16⟩ := Kd.N_slice HO116.out
            subst eo16
            have p117 : 0 ≤ (2 : Int) := (by omega)
            have q117 : 2 < (t113.length : Int) := of_decide_eq_true (by first | (with_reducible assumption) | assumption)
            obtain ⟨ad117, A117_1, c117_1, e117, hx117_0, hx117_1, hl117_1, hi117_1⟩ := at_T44 (Kd.N_reads' HO116.out).2.2 2 p117 q117
            cases e117
            obtain ⟨ce117, hce117, hMe117, hcc117⟩ := Kd.N_get HO116.out z44 2 p117 (by first | exact q117 | exact of_decide_eq_true (by first | (with_reducible assumption) | assumption) | (have e_ := (Kd.N_reads' HO116.out).1; omega))
            obtain ⟨ua117_1, uc117_1, rfl, ul117_1, ge117_1⟩ := k44_openF hMe117
            have hv117_1 := hcc117 1 _ rfl
            rw [add_field _ _ 1 (by omega)] at hv117_1
            replace hv117_1 := Option.some.inj (hv117_1.symm.trans hx117_1)
            injection hv117_1 with hva_ hvn_ hvc_
            rw [hva_] at ge117_1
            rw [hvc_] at ul117_1
            have HL117_1 := Aside0.mk (show Kd.V (Kd.int .u8) 5 _ w.heap.size _ _ ((rd_T44 t113 2).f1) from Kd.V_mk ul117_1 ge117_1)
            clear hva_ hvn_ hvc_ ge117_1 ul117_1
            clear hcc117 hce117
            (try simp only [show (2 : Int).toNat = 2 from rfl, Nat.reduceMul, Nat.reduceEqDiff, Go.Addr.add, ↓reduceIte] at hx117_0)
            (try simp only [show (2 : Int).toNat = 2 from rfl, Nat.reduceMul, Nat.reduceEqDiff, Go.Addr.add, ↓reduceIte] at hx117_1)
            have qi117 : (2 < t113.length) = True := eq_true (by omega)
            (try rw [show ((2 : Int)).toNat = 2 from rfl] at hx117_0)
            (try rw [show 2 * 2 = 4 from rfl] at hx117_0)
            (try rw [show ((2 : Int)).toNat = 2 from rfl] at hx117_1)
            (try rw [show 2 * 2 = 4 from rfl] at hx117_1)
            have HR117_1 := Aside0.mk hi117_1
            have HC117_1 := Aside0.mk hl117_1
            clear hi117_1 hl117_1
            replace p117 := eq_true p117
            replace q117 := eq_true q117
            go_wp2
            go_meet
            case rel => exact ⟨_, (true), (by first | rfl | (simp; done) | (simp [*]; done)), H', ⟨by first | omega | exact Nat.le_refl _⟩, ⟨by (with_reducible repeat (first | apply Kd.N_alloc | apply Kd.N_drewN | apply Kd.N_drew)); exact Kd.N_mono HO116.out (fun _ hk => trivial)⟩, ⟨by repeat (first | (with_reducible first | exact HB.out | apply below_alloc | apply pw_below_drewN | apply below_drew1) | exact HB.out)⟩⟩
        · rw [if_neg c12] at H
          exact absurd H (by simp)
      · rw [if_neg c11] at H
        have c11b0 : ((t113.length : Int) == 3) = false := beq_eq_false_iff_ne.mpr c11
        have c11b1 : ((t113.length : Int) != 3) = true := bne_iff_ne.mpr c11
        have H' := Aside0.mk H
        clear H
        obtain ⟨Ao17, co17, eo17⟩ := Kd.N_slice HO116.out
        subst eo17
        go_wp2
        go_meet
        case rel => exact ⟨_, (true), (by first | rfl | (simp; done) | (simp [*]; done)), H', ⟨by first | omega | exact Nat.le_refl _⟩, ⟨by (with_reducible repeat (first | apply Kd.N_alloc | apply Kd.N_drewN | apply Kd.N_drew)); exact Kd.N_mono HO116.out (fun _ hk => trivial)⟩, ⟨by repeat (first | (with_reducible first | exact HB.out | apply below_alloc | apply pw_below_drewN | apply below_drew1) | exact HB.out)⟩⟩
    · rw [if_neg c10] at H
      have c10b0 : (t114 == 0) = false := beq_eq_false_iff_ne.mpr c10
      have c10b1 : (t114 != 0) = true := bne_iff_ne.mpr c10
      (first | rw [c10b0] | (simp only [i64_w, i32_w]; rw [c10b0]) | skip)
      have H' := Aside0.mk H
      clear H
      go_wp2
      go_meet
      case rel => exact ⟨_, (true), (by first | rfl | (simp; done) | (simp [*]; done)), H', ⟨by first | omega | exact Nat.le_refl _⟩, ⟨by (with_reducible repeat (first | apply Kd.N_alloc | apply Kd.N_drewN | apply Kd.N_drew)); exact Kd.N_mono HO116.out (fun _ hk => trivial)⟩, ⟨by repeat (first | (with_reducible first | exact HB.out | apply below_alloc | apply pw_below_drewN | apply below_drew1) | exact HB.out)⟩⟩
  case rest =>
    clear HC2
    try clear c1
    try clear p1
    try clear q1
    try clear hx1
    try clear qi1
    try clear p2
    try clear c8
    try clear c10
    try clear c10b0
    try clear c10b1
    try clear c11
    try clear c11b0
    try clear c11b1
    try clear p11
    try clear q11
    try clear hx11
    try clear qi11
    try clear c12
    try clear c12b0
    try clear c12b1
    try clear c13
    try clear c13b0
    try clear c13b1
    try clear c14
    try clear c14b0
    try clear c14b1
    try clear hx117_0
    try clear hx117_1
    try clear hx118_0
    try clear hx118_1
    try clear hx119_0
    try clear p117
    try clear p118
    try clear p119
    try clear q117
    try clear q118
    try clear q119
    obtain ⟨kq, x33_1, rfl, HA, HJ1, HO_1, HB⟩ := hcut
    cases kq with
    | zero => exact absurd HA.out (by simp [ciboriumlaw04_works.j0])
    | succ kj1 =>
      have H := HA.out
      clear HA
      simp only [ciboriumlaw04_works.j0] at H
      by_cases c18 : x33_1 = true
      · subst c18
        have H1 : (some false) = some r := by rw [if_pos rfl] at H; exact H
        clear H
        have H := H1
        clear H1
        obtain rfl := Option.some.inj H
        go_wp2
        go_ret
        exact ⟨by first | rfl | (simp [errW_none, errW_some] <;> rfl) | (simp [*, errW_none, errW_some] <;> rfl), by repeat (first | (with_reducible first | exact HB.out | apply below_alloc | apply pw_below_drewN | apply below_drew1) | exact HB.out)⟩
      · replace c18 := Bool.eq_false_iff.mpr c18
        subst c18
        have H1 : (if 2 < (t113.length : Int) then (if 0 < (t113.length : Int) then ((share_Combine.f (([(⟨(rd_T44 t113 2).f0, (rd_T44 t113 2).f1⟩ : S44), (⟨(rd_T44 t113 0).f0, (rd_T44 t113 0).f1⟩ : S44)] : List (S44)))).bind fun bt125 => (if bt125.2 = 0 then (if (bt125.1.length : Int) = 1 then (if 0 < (bt125.1.length : Int) then (if (rd bt125.1 0) = 66 then ((share_Text.f ((rd_T44 t113 2).f0) ((rd_T44 t113 2).f1)).bind fun t131 => (some (t131.toList == ([48, 51, 52, 49] : List UInt8)))) else (some false)) else (none)) else (some false)) else (some false))) else (none)) else (none)) = some r := by rw [if_neg (show ¬ (false = true) by decide)] at H; exact H
        clear H
        have H := H1
        clear H1
        by_cases c19 : 2 < (t113.length : Int)
        · rw [if_pos c19] at H
          have c19b0 : decide (2 < (t113.length : Int)) = true := decide_eq_true c19
          have c19b1 : decide (2 < t113.length) = true := decide_eq_true (by omega)
          clear c19
          by_cases c20 : 0 < (t113.length : Int)
          · rw [if_pos c20] at H
            have c20b0 : decide (0 < (t113.length : Int)) = true := decide_eq_true c20
            have c20b1 : decide (0 < t113.length) = true := decide_eq_true (by omega)
            clear c20
            obtain ⟨y122, hy122⟩ : ∃ y_ : List (S44), y_ = (([(⟨(rd_T44 t113 2).f0, (rd_T44 t113 2).f1⟩ : S44), (⟨(rd_T44 t113 0).f0, (rd_T44 t113 0).f1⟩ : S44)] : List (S44))) := ⟨_, rfl⟩
            replace H : ((share_Combine.f y122).bind fun bt125 => (if bt125.2 = 0 then (if (bt125.1.length : Int) = 1 then (if 0 < (bt125.1.length : Int) then (if (rd bt125.1 0) = 66 then ((share_Text.f ((rd_T44 t113 2).f0) ((rd_T44 t113 2).f1)).bind fun t131 => (some (t131.toList == ([48, 51, 52, 49] : List UInt8)))) else (some false)) else (none)) else (some false)) else (some false))) = some r := by first | (rw [hy122]; with_reducible exact H) | (have H2_ := (Option.bind_some _ _).symm.trans H; rw [hy122]; with_reducible exact H2_) | (have H2_ := (Option.bind_some _ _).symm.trans H; with_reducible exact H2_) | with_reducible exact H | (rw [hy122]; exact H) | exact H
            have Ny122 := Aside0.mk hy122
            clear hy122
            replace H := Option.bind_eq_some_iff.mp H
            obtain ⟨⟨t125, t126⟩, A210, H⟩ := H
            replace H : (if t126 = 0 then (if (t125.length : Int) = 1 then (if 0 < (t125.length : Int) then (if (rd t125 0) = 66 then ((share_Text.f ((rd_T44 t113 2).f0) ((rd_T44 t113 2).f1)).bind fun t131 => (some (t131.toList == ([48, 51, 52, 49] : List UInt8)))) else (some false)) else (none)) else (some false)) else (some false)) = some r := H
            have A21 := Aside0.mk A210
            clear A210
            by_cases c22 : t126 = 0
            · rw [if_pos c22] at H
              have c22b0 : (t126 == 0) = true := beq_iff_eq.mpr c22
              have c22b1 : (t126 != 0) = false := bne_eq_false_iff_eq.mpr c22
              clear c22
              by_cases c23 : (t125.length : Int) = 1
              · rw [if_pos c23] at H
                have c23b0 : ((t125.length : Int) == 1) = true := beq_iff_eq.mpr c23
                have c23b1 : ((t125.length : Int) != 1) = false := bne_eq_false_iff_eq.mpr c23
                clear c23
                by_cases c24 : 0 < (t125.length : Int)
                · rw [if_pos c24] at H
                  have c24b0 : decide (0 < (t125.length : Int)) = true := decide_eq_true c24
                  have c24b1 : decide (0 < t125.length) = true := decide_eq_true (by omega)
                  clear c24
                  by_cases c25 : (rd t125 0) = 66
                  · rw [if_pos c25] at H
                    have c25b0 : ((rd t125 0) == 66) = true := beq_iff_eq.mpr c25
                    have c25b1 : ((rd t125 0) != 66) = false := bne_eq_false_iff_eq.mpr c25
                    clear c25
                    replace H := Option.bind_eq_some_iff.mp H
                    obtain ⟨t131, A260, H⟩ := H
                    replace H : (some (t131.toList == ([48, 51, 52, 49] : List UInt8))) = some r := H
                    have A26 := Aside0.mk A260
                    clear A260
                    obtain rfl := Option.some.inj H
                    try go_wp2
                    have n0_ := Aside0.mk (Kd.N_drew HO_1.out)
                    have n1_ := Aside0.mk (below_drew1 HB.out)
                    clear HO_1
                    clear HB
                    have HO_1 := n0_
                    have HB := n1_
                    clear n0_ n1_
                    obtain ⟨Ao28, co28, eo28⟩ := Kd.N_slice HO_1.out
                    (first | subst eo28 | (injection eo28 with f1_ f2_ f3_; have f4_ := f1_.symm; have f5_ := f3_.symm; clear f1_ f2_ f3_; subst f4_; subst f5_))
                    have p120 : 0 ≤ (2 : Int) := (by omega)
                    have q120 : 2 < (t113.length : Int) := of_decide_eq_true (by first | (with_reducible assumption) | assumption)
                    obtain ⟨ad120, A120_1, c120_1, e120, hx120_0, hx120_1, hl120_1, hi120_1⟩ := at_T44 (Kd.N_reads' HO_1.out).2.2 2 p120 q120
                    cases e120
                    obtain ⟨ce120, hce120, hMe120, hcc120⟩ := Kd.N_get HO_1.out z44 2 p120 (by first | exact q120 | exact of_decide_eq_true (by first | (with_reducible assumption) | assumption) | (have e_ := (Kd.N_reads' HO_1.out).1; omega))
                    obtain ⟨ua120_1, uc120_1, rfl, ul120_1, ge120_1⟩ := k44_openF hMe120
                    have hv120_1 := hcc120 1 _ rfl
                    rw [add_field _ _ 1 (by omega)] at hv120_1
                    replace hv120_1 := Option.some.inj (hv120_1.symm.trans hx120_1)
                    injection hv120_1 with hva_ hvn_ hvc_
                    rw [hva_] at ge120_1
                    rw [hvc_] at ul120_1
                    have HL120_1 := Aside0.mk (show Kd.V (Kd.int .u8) 5 _ w.heap.size _ _ ((rd_T44 t113 2).f1) from Kd.V_mk ul120_1 ge120_1)
                    clear hva_ hvn_ hvc_ ge120_1 ul120_1
                    clear hcc120 hce120
                    (try simp only [show (2 : Int).toNat = 2 from rfl, Nat.reduceMul, Nat.reduceEqDiff, Go.Addr.add, ↓reduceIte] at hx120_0)
                    (try simp only [show (2 : Int).toNat = 2 from rfl, Nat.reduceMul, Nat.reduceEqDiff, Go.Addr.add, ↓reduceIte] at hx120_1)
                    have qi120 : (2 < t113.length) = True := eq_true (by omega)
                    (try rw [show ((2 : Int)).toNat = 2 from rfl] at hx120_0)
                    (try rw [show 2 * 2 = 4 from rfl] at hx120_0)
                    (try rw [show ((2 : Int)).toNat = 2 from rfl] at hx120_1)
                    (try rw [show 2 * 2 = 4 from rfl] at hx120_1)
                    have HR120_1 := Aside0.mk hi120_1
                    have HC120_1 := Aside0.mk hl120_1
                    clear hi120_1 hl120_1
                    replace p120 := eq_true p120
                    replace q120 := eq_true q120
                    have p121 : 0 ≤ (0 : Int) := (by omega)
                    have q121 : 0 < (t113.length : Int) := of_decide_eq_true (by first | (with_reducible assumption) | assumption)
                    obtain ⟨ad121, A121_1, c121_1, e121, hx121_0, hx121_1, hl121_1, hi121_1⟩ := at_T44 (Kd.N_reads' HO_1.out).2.2 0 p121 q121
                    obtain rfl : ad120 = ad121 := (by injection e121)
                    obtain ⟨ce121, hce121, hMe121, hcc121⟩ := Kd.N_get HO_1.out z44 0 p121 (by first | exact q121 | exact of_decide_eq_true (by first | (with_reducible assumption) | assumption) | (have e_ := (Kd.N_reads' HO_1.out).1; omega))
                    obtain ⟨ua121_1, uc121_1, rfl, ul121_1, ge121_1⟩ := k44_openF hMe121
                    have hv121_1 := hcc121 1 _ rfl
                    rw [add_field _ _ 1 (by omega)] at hv121_1
                    replace hv121_1 := Option.some.inj (hv121_1.symm.trans hx121_1)
                    injection hv121_1 with hva_ hvn_ hvc_
                    rw [hva_] at ge121_1
                    rw [hvc_] at ul121_1
                    have HL121_1 := Aside0.mk (show Kd.V (Kd.int .u8) 5 _ w.heap.size _ _ ((rd_T44 t113 0).f1) from Kd.V_mk ul121_1 ge121_1)
                    clear hva_ hvn_ hvc_ ge121_1 ul121_1
                    clear hcc121 hce121
                    have qi121 : (0 < t113.length) = True := eq_true (by omega)
                    (try rw [show ((0 : Int)).toNat = 0 from rfl] at hx121_0)
                    (try rw [show 0 * 2 = 0 from rfl] at hx121_0)
                    (try rw [Addr.add_zero'] at hx121_0)
                    (try rw [show ((0 : Int)).toNat = 0 from rfl] at hx121_1)
                    (try rw [show 0 * 2 = 0 from rfl] at hx121_1)
                    (try rw [Addr.add_zero'] at hx121_1)
                    have HR121_1 := Aside0.mk hi121_1
                    have HC121_1 := Aside0.mk hl121_1
                    clear hi121_1 hl121_1
                    replace p121 := eq_true p121
                    replace q121 := eq_true q121
                    refine start_ (n := 13) (S := fun w' => w'.cell? ⟨ad120.block, ad120.off + 4, none⟩ = some (.int .u8 ((rd_T44 t113 2).f0)) ∧ w'.cell? ⟨ad120.block, ad120.off + 4 + 1, none⟩ = some (.slice A120_1 ((rd_T44 t113 2).f1).length c120_1) ∧ w'.cell? ad120 = some (.int .u8 ((rd_T44 t113 0).f0)) ∧ w'.cell? ⟨ad120.block, ad120.off + 1, none⟩ = some (.slice A121_1 ((rd_T44 t113 0).f1).length c121_1)) (ds := []) #[false, false, false, false, false, false, false, false, false, false, false, false, false] (by kernel_rfl) rfl rfl ⟨hx120_0, hx120_1, hx121_0, hx121_1⟩ (fun hHeld => ?_); refine with_tabW ciboriumlaw04_works.tab4 ciboriumlaw04_works.bits4 (fun HT_ HW_ => ?_)
                    generalize wc.drew = w27 at HO_1 HB HL120_1 HL121_1 HR120_1 HR121_1 hx120_0 hx120_1 hx121_0 hx121_1 hHeld ⊢
                    refine pure_ (i := 0) (N := some 35) (v := ?_) (a' := ?_) #[true, false, false, false, false, false, false, false, false, false, false, false, false] rfl rfl (any_of HT_.out (by kernel_rfl)) (fun _ _ _ h => h) (Or.inl ⟨by rfl, ?_⟩) ?_ ?_
                    rotate_left
                    · intro w'
                      go_simp
                      with_reducible rfl
                    rotate_left
                    · simp only [Act.put, List.setIfInBounds_toArray, List.set_cons_zero, List.set_cons_succ, i64_w, i32_w]
                      rfl
                    refine pure_ (i := 1) (N := some 36) (v := ?_) (a' := ?_) #[true, true, false, false, false, false, false, false, false, false, false, false, false] rfl rfl (any_of HT_.out (by kernel_rfl)) (fun _ _ _ h => h) (Or.inl ⟨by rfl, ?_⟩) ?_ ?_
                    rotate_left
                    · intro w'
                      go_simp
                      with_reducible rfl
                    rotate_left
                    · simp only [Act.put, List.setIfInBounds_toArray, List.set_cons_zero, List.set_cons_succ, i64_w, i32_w]
                      rfl
                    refine pure_ (i := 3) (N := some 38) (v := ?_) (a' := ?_) #[true, true, false, true, false, false, false, false, false, false, false, false, false] rfl rfl (any_of HT_.out (by kernel_rfl)) (fun _ _ _ h => h) (Or.inl ⟨by rfl, ?_⟩) ?_ ?_
                    rotate_left
                    · intro w'
                      go_simp
                      with_reducible rfl
                    rotate_left
                    · simp only [Act.put, List.setIfInBounds_toArray, List.set_cons_zero, List.set_cons_succ, i64_w, i32_w]
                      rfl
                    refine pure_ (i := 4) (N := some 39) (v := ?_) (a' := ?_) #[true, true, false, true, true, false, false, false, false, false, false, false, false] rfl rfl (any_of HT_.out (by kernel_rfl)) (fun _ _ _ h => h) (Or.inl ⟨by rfl, ?_⟩) ?_ ?_
                    rotate_left
                    · intro w'
                      go_simp
                      with_reducible rfl
                    rotate_left
                    · simp only [Act.put, List.setIfInBounds_toArray, List.set_cons_zero, List.set_cons_succ, i64_w, i32_w]
                      rfl
                    refine take_ (i := 2) (N := some 37) (v := ?_) (a' := ?_) #[true, true, true, true, true, false, false, false, false, false, false, false, false] rfl rfl (take_ofW HT_.out HW_.out (by kernel_rfl)) (fun _ _ _ h => h) (Or.inl ⟨by rfl, ?_⟩) hHeld ?_ ?_
                    rotate_left
                    · rintro w' ⟨s0, s1, s2, s3⟩
                      go_simp
                      with_reducible rfl
                    rotate_left
                    · simp only [Act.put, List.setIfInBounds_toArray, List.set_cons_zero, List.set_cons_succ, i64_w, i32_w]
                      rfl
                    refine take_ (i := 5) (N := some 40) (v := ?_) (a' := ?_) #[true, true, true, true, true, true, false, false, false, false, false, false, false] rfl rfl (take_ofW HT_.out HW_.out (by kernel_rfl)) (fun _ _ _ h => h) (Or.inl ⟨by rfl, ?_⟩) hHeld ?_ ?_
                    rotate_left
                    · rintro w' ⟨s0, s1, s2, s3⟩
                      go_simp
                      with_reducible rfl
                    rotate_left
                    · simp only [Act.put, List.setIfInBounds_toArray, List.set_cons_zero, List.set_cons_succ, i64_w, i32_w]
                      rfl
                    refine one_ (i := 6) (N := some 41) #[true, true, true, true, true, true, true, false, false, false, false, false, false] rfl rfl (one_of HT_.out (by kernel_rfl)) (by decide) (fun K hK => ?_)
                    refine Kd.N_lit_step k44 _ 44 ?hg (N' := 41) ?hd (xs := ([(⟨(rd_T44 t113 2).f0, (rd_T44 t113 2).f1⟩ : S44), (⟨(rd_T44 t113 0).f0, (rd_T44 t113 0).f1⟩ : S44)] : List (S44))) (inner := [.int .u8 ((rd_T44 t113 2).f0), .slice A120_1 ((rd_T44 t113 2).f1).length c120_1, .int .u8 ((rd_T44 t113 0).f0), .slice A121_1 ((rd_T44 t113 0).f1).length c121_1]) (ok := (fun k_ => some k_ ≠ (.slice (some ad120) t113.length co28 : Value).ownBlock)) (okp := (fun k_ => some k_ ≠ (.slice (some ad120) t113.length co28 : Value).ownBlock)) ?hr ?hp (fun _ hk => hk) ((show ∀ k_, w27.heap.size ≤ k_ → (fun k_ => some k_ ≠ (.slice (some ad120) t113.length co28 : Value).ownBlock) k_ from fun k_ hk => Kd.fresh' (Kd.N_lt (by (with_reducible repeat (first | apply Kd.N_alloc | apply Kd.N_drewN | apply Kd.N_drew)); exact HO_1.out)) k_ hk) _ (Nat.le_refl _)) (Below.refl _ _) (Nat.le_refl _) (by simp) ?_; (case hd => rfl); (case hg => rfl); (case hr => first | (go_simp; done) | (go_simp; rfl)); (case hp => exact (Reps.c2 (show Kd.FK k44 _ _ (⟨(rd_T44 t113 2).f0, (rd_T44 t113 2).f1⟩ : S44) [.int .u8 ((rd_T44 t113 2).f0), .slice A120_1 ((rd_T44 t113 2).f1).length c120_1] from (k44_mkF _ _ (⟨(rd_T44 t113 2).f0, (rd_T44 t113 2).f1⟩ : S44) (Kd.V_reads' (Kd.V_mono (ok' := (fun k_ => some k_ ≠ (.slice (some ad120) t113.length co28 : Value).ownBlock)) (HL120_1.out) (fun k_ hk => hk.2))).2.1 (Kd.V_F (Kd.V_mono (ok' := (fun k_ => some k_ ≠ (.slice (some ad120) t113.length co28 : Value).ownBlock)) (HL120_1.out) (fun k_ hk => hk.2))))) (Reps.c2 (show Kd.FK k44 _ _ (⟨(rd_T44 t113 0).f0, (rd_T44 t113 0).f1⟩ : S44) [.int .u8 ((rd_T44 t113 0).f0), .slice A121_1 ((rd_T44 t113 0).f1).length c121_1] from (k44_mkF _ _ (⟨(rd_T44 t113 0).f0, (rd_T44 t113 0).f1⟩ : S44) (Kd.V_reads' (Kd.V_mono (ok' := (fun k_ => some k_ ≠ (.slice (some ad120) t113.length co28 : Value).ownBlock)) (HL121_1.out) (fun k_ hk => hk.2))).2.1 (Kd.V_F (Kd.V_mono (ok' := (fun k_ => some k_ ≠ (.slice (some ad120) t113.length co28 : Value).ownBlock)) (HL121_1.out) (fun k_ hk => hk.2))))) (Reps.none _ _))))
                    intro v123 w29 ho30 hb hg_ hnew_
                    have HS0_ := (hb.cell (World.block_lt_of_cell? _ _ (hHeld.1))).trans (hHeld.1)
                    have HS1_ := (hb.cell (World.block_lt_of_cell? _ _ (hHeld.2.1))).trans (hHeld.2.1)
                    have HS2_ := (hb.cell (World.block_lt_of_cell? _ _ (hHeld.2.2.1))).trans (hHeld.2.2.1)
                    have HS3_ := (hb.cell (World.block_lt_of_cell? _ _ (hHeld.2.2.2))).trans (hHeld.2.2.2)
                    clear hg_ hnew_
                    (first | rw [← Ny122.out] at ho30 | (simp only [Int.reduceToNat] at ho30; rw [← Ny122.out] at ho30))
                    have n0_ := Aside0.mk (Kd.N_elder' (by (with_reducible repeat (first | apply Kd.N_alloc | apply Kd.N_drewN | apply Kd.N_drew)); exact HO_1.out) (Kd.N_base ho30) hb)
                    have n1_ := Aside0.mk (Kd.V_elder' (by (with_reducible repeat (first | apply Kd.V_alloc | apply Kd.V_drewN | apply Kd.V_drew)); exact HL120_1.out) (Kd.N_base ho30) hb)
                    have n2_ := Aside0.mk (Kd.V_elder' (by (with_reducible repeat (first | apply Kd.V_alloc | apply Kd.V_drewN | apply Kd.V_drew)); exact HL121_1.out) (Kd.N_base ho30) hb)
                    have n3_ := Aside0.mk (Kd.N_lower ho30 (below_size (by repeat (first | (with_reducible first | exact HB.out | apply below_alloc | apply pw_below_drewN | apply below_drew1) | exact HB.out))))
                    have n4_ := Aside0.mk (Kd.C_below (by repeat (first | (with_reducible exact HR120_1.out) | (with_reducible refine Kd.C_alloc ?_ _) | (with_reducible refine Kd.C_drewN ?_ _) | (with_reducible refine Kd.C_drew ?_) | exact HR120_1.out)) hb)
                    have n5_ := Aside0.mk (Kd.C_below (by repeat (first | (with_reducible exact HR121_1.out) | (with_reducible refine Kd.C_alloc ?_ _) | (with_reducible refine Kd.C_drewN ?_ _) | (with_reducible refine Kd.C_drew ?_) | exact HR121_1.out)) hb)
                    have n6_ := Aside0.mk (below_step (by repeat (first | (with_reducible first | exact HB.out | apply below_alloc | apply pw_below_drewN | apply below_drew1) | exact HB.out)) hb)
                    clear HO_1
                    clear HL120_1
                    clear HL121_1
                    clear HR120_1
                    clear HR121_1
                    clear HB
                    have HO_1 := n0_
                    have HL120_1 := n1_
                    have HL121_1 := n2_
                    have HO124 := n3_
                    have HR120_1 := n4_
                    have HR121_1 := n5_
                    have HB := n6_
                    clear n0_ n1_ n2_ n3_ n4_ n5_ n6_
                    clear hb ho30
                    obtain ⟨Ao31, co31, eo31⟩ := Kd.N_slice HO124.out
                    (first | subst eo31 | (injection eo31 with f1_ f2_ f3_; have f4_ := f1_.symm; have f5_ := f3_.symm; clear f1_ f2_ f3_; subst f4_; subst f5_))
                    refine hK.out _ _ ⟨HS0_, HS1_, HS2_, HS3_⟩ (fun hHeld => ?_)
                    clear hK K
                    refine norm_ (a' := ?_) ?_ ?_
                    rotate_left
                    · show Act.put _ (some 41) _ = _
                      simp only [Act.put, List.setIfInBounds_toArray, List.set_cons_zero, List.set_cons_succ, i64_w, i32_w]
                      rfl
                    refine one_ (i := 7) (N := some 42) #[true, true, true, true, true, true, true, true, false, false, false, false, false] rfl rfl (one_of HT_.out (by kernel_rfl)) (by decide) (fun K hK => ?_)
                    refine goes_ Try.func24 (by kernel_rfl) rfl #[.slice Ao31 y122.length co31] (by rfl) rfl rfl (by (try simp only [List.map_toArray, List.map_cons, List.map_nil]); first | done | rfl | (simp only [List.length_drop, List.length_take]; rfl)) ?_
                    with_reducible refine (share_Combine.calls _ _ y122 t125 t126 _ ?side1 ?side2 A21.out).mono ?_
                    (case side1 => repeat (first | exact (Kd.N_reads' HO124.out).2.2 | (with_reducible refine Kd.C_alloc ?_ _) | (with_reducible refine Kd.C_drewN ?_ _) | (with_reducible refine Kd.C_drew ?_)))
                    (case side2 => exact (Kd.N_reads' HO124.out).2.1)
                    rintro e w32 ⟨v127, rfl, ho0, hb⟩
                    have HS0_ := (hb.cell (World.block_lt_of_cell? _ _ (hHeld.1))).trans (hHeld.1)
                    have HS1_ := (hb.cell (World.block_lt_of_cell? _ _ (hHeld.2.1))).trans (hHeld.2.1)
                    have HS2_ := (hb.cell (World.block_lt_of_cell? _ _ (hHeld.2.2.1))).trans (hHeld.2.2.1)
                    have HS3_ := (hb.cell (World.block_lt_of_cell? _ _ (hHeld.2.2.2))).trans (hHeld.2.2.2)
                    refine ⟨_, rfl, ?_⟩
                    have n0_ := Aside0.mk (Kd.N_elder' (by (with_reducible repeat (first | apply Kd.N_alloc | apply Kd.N_drewN | apply Kd.N_drew)); exact HO_1.out) (Kd.R_base ho0) hb)
                    have n1_ := Aside0.mk (Kd.V_elder' (by (with_reducible repeat (first | apply Kd.V_alloc | apply Kd.V_drewN | apply Kd.V_drew)); exact HL120_1.out) (Kd.R_base ho0) hb)
                    have n2_ := Aside0.mk (Kd.V_elder' (by (with_reducible repeat (first | apply Kd.V_alloc | apply Kd.V_drewN | apply Kd.V_drew)); exact HL121_1.out) (Kd.R_base ho0) hb)
                    have n3_ := Aside0.mk (Kd.N_elder' (by (with_reducible repeat (first | apply Kd.N_alloc | apply Kd.N_drewN | apply Kd.N_drew)); exact HO124.out) (Kd.R_base ho0) hb)
                    have n4_ := Aside0.mk (Kd.R_lower ho0 (below_size (by repeat (first | (with_reducible first | exact HB.out | apply below_alloc | apply pw_below_drewN | apply below_drew1) | exact HB.out))))
                    have n5_ := Aside0.mk (Kd.C_below (by repeat (first | (with_reducible exact HR120_1.out) | (with_reducible refine Kd.C_alloc ?_ _) | (with_reducible refine Kd.C_drewN ?_ _) | (with_reducible refine Kd.C_drew ?_) | exact HR120_1.out)) hb)
                    have n6_ := Aside0.mk (Kd.C_below (by repeat (first | (with_reducible exact HR121_1.out) | (with_reducible refine Kd.C_alloc ?_ _) | (with_reducible refine Kd.C_drewN ?_ _) | (with_reducible refine Kd.C_drew ?_) | exact HR121_1.out)) hb)
                    have n7_ := Aside0.mk (below_step (by repeat (first | (with_reducible first | exact HB.out | apply below_alloc | apply pw_below_drewN | apply below_drew1) | exact HB.out)) hb)
                    clear HO_1
                    clear HL120_1
                    clear HL121_1
                    clear HO124
                    clear HR120_1
                    clear HR121_1
                    clear HB
                    have HO_1 := n0_
                    have HL120_1 := n1_
                    have HL121_1 := n2_
                    have HO124 := n3_
                    have HO128 := n4_
                    have HR120_1 := n5_
                    have HR121_1 := n6_
                    have HB := n7_
                    clear n0_ n1_ n2_ n3_ n4_ n5_ n6_ n7_
                    (try clear hb)
                    (try clear hb2)
                    (try clear hk)
                    (try clear hi)
                    (try clear ho0)
                    refine hK.out _ _ ⟨HS0_, HS1_, HS2_, HS3_⟩ (fun hHeld => ?_)
                    clear hK K
                    refine norm_ (a' := ?_) ?_ ?_
                    rotate_left
                    · show Act.put _ (some 42) _ = _
                      simp only [Act.put, List.setIfInBounds_toArray, List.set_cons_zero, List.set_cons_succ, i64_w, i32_w]
                      rfl
                    refine pure_ (i := 8) (N := some 34) (v := ?_) (a' := ?_) #[true, true, true, true, true, true, true, true, true, false, false, false, false] rfl rfl (any_of HT_.out (by kernel_rfl)) (fun _ _ _ h => h) (Or.inl ⟨by rfl, ?_⟩) ?_ ?_
                    rotate_left
                    · intro w'
                      go_simp
                      with_reducible rfl
                    rotate_left
                    · simp only [Act.put, List.setIfInBounds_toArray, List.set_cons_zero, List.set_cons_succ, i64_w, i32_w]
                      rfl
                    refine pure_ (i := 9) (N := some 43) (v := ?_) (a' := ?_) #[true, true, true, true, true, true, true, true, true, true, false, false, false] rfl rfl (any_of HT_.out (by kernel_rfl)) (fun _ _ _ h => h) (Or.inl ⟨by rfl, ?_⟩) ?_ ?_
                    rotate_left
                    · intro w'
                      go_simp
                      with_reducible rfl
                    rotate_left
                    · simp only [Act.put, List.setIfInBounds_toArray, List.set_cons_zero, List.set_cons_succ, i64_w, i32_w]
                      rfl
                    refine pure_ (i := 10) (N := some 44) (v := ?_) (a' := ?_) #[true, true, true, true, true, true, true, true, true, true, true, false, false] rfl rfl (any_of HT_.out (by kernel_rfl)) (fun _ _ _ h => h) (Or.inl ⟨by rfl, ?_⟩) ?_ ?_
                    rotate_left
                    · intro w'
                      go_simp
                      with_reducible rfl
                    rotate_left
                    · simp only [Act.put, List.setIfInBounds_toArray, List.set_cons_zero, List.set_cons_succ, i64_w, i32_w]
                      rfl
                    refine pure_ (i := 11) (N := some 3) (v := ?_) (a' := ?_) #[true, true, true, true, true, true, true, true, true, true, true, true, false] rfl rfl (any_of HT_.out (by kernel_rfl)) (fun _ _ _ h => h) (Or.inl ⟨by rfl, ?_⟩) ?_ ?_
                    rotate_left
                    · intro w'
                      go_simp
                      with_reducible rfl
                    rotate_left
                    · simp only [Act.put, List.setIfInBounds_toArray, List.set_cons_zero, List.set_cons_succ, i64_w, i32_w]
                      rfl
                    refine pure_ (i := 12) (N := some 2) (v := ?_) (a' := ?_) #[true, true, true, true, true, true, true, true, true, true, true, true, true] rfl rfl (any_of HT_.out (by kernel_rfl)) (fun _ _ _ h => h) (Or.inl ⟨by rfl, ?_⟩) ?_ ?_
                    rotate_left
                    · intro w'
                      go_simp
                      with_reducible rfl
                    rotate_left
                    · simp only [Act.put, List.setIfInBounds_toArray, List.set_cons_zero, List.set_cons_succ, i64_w, i32_w]
                      rfl
                    refine done_ (done_of HT_.out (by kernel_rfl)) ?_
                    obtain ⟨Ao33, co33, eo33⟩ := Kd.R_slice HO128.out
                    subst eo33
                    have p129 : 0 ≤ (0 : Int) := (by omega)
                    have q129 : 0 < (t125.length : Int) := of_decide_eq_true (by first | (with_reducible assumption) | assumption)
                    obtain ⟨ad129, e129, hx129_0⟩ := Kd.at_int (Kd.R_reads' HO128.out).2.2 0 p129 q129
                    cases e129
                    have qi129 : (0 < t125.length) = True := eq_true (by omega)
                    (try rw [show ((0 : Int)).toNat = 0 from rfl] at hx129_0)
                    (try rw [Addr.add_zero'] at hx129_0)
                    replace p129 := eq_true p129
                    replace q129 := eq_true q129
                    have p130 : 0 ≤ (2 : Int) := (by omega)
                    have q130 : 2 < (t113.length : Int) := of_decide_eq_true (by first | (with_reducible assumption) | assumption)
                    obtain ⟨ad130, A130_1, c130_1, e130, hx130_0, hx130_1, hl130_1, hi130_1⟩ := at_T44 (Kd.N_reads' HO_1.out).2.2 2 p130 q130
                    obtain rfl : ad120 = ad130 := (by injection e130)
                    obtain ⟨ce130, hce130, hMe130, hcc130⟩ := Kd.N_get HO_1.out z44 2 p130 (by first | exact q130 | exact of_decide_eq_true (by first | (with_reducible assumption) | assumption) | (have e_ := (Kd.N_reads' HO_1.out).1; omega))
                    obtain ⟨ua130_1, uc130_1, rfl, ul130_1, ge130_1⟩ := k44_openF hMe130
                    have hv130_1 := hcc130 1 _ rfl
                    rw [add_field _ _ 1 (by omega)] at hv130_1
                    replace hv130_1 := Option.some.inj (hv130_1.symm.trans hx130_1)
                    injection hv130_1 with hva_ hvn_ hvc_
                    rw [hva_] at ge130_1
                    rw [hvc_] at ul130_1
                    have HL130_1 := Aside0.mk (show Kd.V (Kd.int .u8) 5 _ w.heap.size _ _ ((rd_T44 t113 2).f1) from Kd.V_mk ul130_1 ge130_1)
                    clear hva_ hvn_ hvc_ ge130_1 ul130_1
                    clear hcc130 hce130
                    (try simp only [show (2 : Int).toNat = 2 from rfl, Nat.reduceMul, Nat.reduceEqDiff, Go.Addr.add, ↓reduceIte] at hx130_0)
                    (try simp only [show (2 : Int).toNat = 2 from rfl, Nat.reduceMul, Nat.reduceEqDiff, Go.Addr.add, ↓reduceIte] at hx130_1)
                    have qi130 : (2 < t113.length) = True := eq_true (by omega)
                    (try rw [show ((2 : Int)).toNat = 2 from rfl] at hx130_0)
                    (try rw [show 2 * 2 = 4 from rfl] at hx130_0)
                    (try rw [show ((2 : Int)).toNat = 2 from rfl] at hx130_1)
                    (try rw [show 2 * 2 = 4 from rfl] at hx130_1)
                    have HR130_1 := Aside0.mk hi130_1
                    have HC130_1 := Aside0.mk hl130_1
                    clear hi130_1 hl130_1
                    replace p130 := eq_true p130
                    replace q130 := eq_true q130
                    try go_wp2_with (first | (go_at_call 29; (with_reducible refine (share_Text.calls ((rd_T44 t113 2).f0) _ _ ((rd_T44 t113 2).f1) t131 _ ?side1 ?side2 A26.out).mono ?_); (case side1 => repeat (first | exact (by repeat (first | (with_reducible exact HR120_1.out) | (with_reducible refine Kd.C_alloc ?_ _) | (with_reducible refine Kd.C_drewN ?_ _) | (with_reducible refine Kd.C_drew ?_) | exact HR120_1.out)) | (with_reducible refine Kd.C_alloc ?_ _) | (with_reducible refine Kd.C_drewN ?_ _) | (with_reducible refine Kd.C_drew ?_))); (case side2 => exact HC120_1.out); rintro e w34 ⟨rfl, hb⟩; have n0_ := Aside0.mk (Kd.N_below (by (with_reducible repeat (first | apply Kd.N_alloc | apply Kd.N_drewN | apply Kd.N_drew)); exact HO_1.out) hb); have n1_ := Aside0.mk (Kd.V_below (by (with_reducible repeat (first | apply Kd.V_alloc | apply Kd.V_drewN | apply Kd.V_drew)); exact HL120_1.out) hb); have n2_ := Aside0.mk (Kd.V_below (by (with_reducible repeat (first | apply Kd.V_alloc | apply Kd.V_drewN | apply Kd.V_drew)); exact HL121_1.out) hb); have n3_ := Aside0.mk (Kd.N_below (by (with_reducible repeat (first | apply Kd.N_alloc | apply Kd.N_drewN | apply Kd.N_drew)); exact HO124.out) hb); have n4_ := Aside0.mk (Kd.R_below (by (with_reducible repeat (first | apply Kd.R_alloc | apply Kd.R_drewN | apply Kd.R_drew)); exact HO128.out) hb); have n5_ := Aside0.mk (Kd.V_below (by (with_reducible repeat (first | apply Kd.V_alloc | apply Kd.V_drewN | apply Kd.V_drew)); exact HL130_1.out) hb); have n6_ := Aside0.mk (Kd.C_below (by repeat (first | (with_reducible exact HR120_1.out) | (with_reducible refine Kd.C_alloc ?_ _) | (with_reducible refine Kd.C_drewN ?_ _) | (with_reducible refine Kd.C_drew ?_) | exact HR120_1.out)) hb); have n7_ := Aside0.mk (Kd.C_below (by repeat (first | (with_reducible exact HR121_1.out) | (with_reducible refine Kd.C_alloc ?_ _) | (with_reducible refine Kd.C_drewN ?_ _) | (with_reducible refine Kd.C_drew ?_) | exact HR121_1.out)) hb); have n8_ := Aside0.mk (Kd.C_below (by repeat (first | (with_reducible exact HR130_1.out) | (with_reducible refine Kd.C_alloc ?_ _) | (with_reducible refine Kd.C_drewN ?_ _) | (with_reducible refine Kd.C_drew ?_) | exact HR130_1.out)) hb); have n9_ := Aside0.mk (below_step (by repeat (first | (with_reducible first | exact HB.out | apply below_alloc | apply pw_below_drewN | apply below_drew1) | exact HB.out)) hb); clear HO_1; clear HL120_1; clear HL121_1; clear HO124; clear HO128; clear HL130_1; clear HR120_1; clear HR121_1; clear HR130_1; clear HB; have HO_1 := n0_; have HL120_1 := n1_; have HL121_1 := n2_; have HO124 := n3_; have HO128 := n4_; have HL130_1 := n5_; have HR120_1 := n6_; have HR121_1 := n7_; have HR130_1 := n8_; have HB := n9_; clear n0_ n1_ n2_ n3_ n4_ n5_ n6_ n7_ n8_ n9_; (try clear hb); (try clear hb2); (try clear hk); (try clear hi)))
                    go_ret
                    exact ⟨by first | rfl | (simp [errW_none, errW_some] <;> rfl) | (simp [*, errW_none, errW_some] <;> rfl), by repeat (first | (with_reducible first | exact HB.out | apply below_alloc | apply pw_below_drewN | apply below_drew1) | exact HB.out)⟩
                  · rw [if_neg c25] at H
                    have c25b0 : ((rd t125 0) == 66) = false := beq_eq_false_iff_ne.mpr c25
                    have c25b1 : ((rd t125 0) != 66) = true := bne_iff_ne.mpr c25
                    obtain rfl := Option.some.inj H
                    try go_wp2
                    have n0_ := Aside0.mk (Kd.N_drew HO_1.out)
                    have n1_ := Aside0.mk (below_drew1 HB.out)
                    clear HO_1
                    clear HB
                    have HO_1 := n0_
                    have HB := n1_
                    clear n0_ n1_
                    obtain ⟨Ao36, co36, eo36⟩ := Kd.N_slice HO_1.out
                    (first | subst eo36 | (injection eo36 with f1_ f2_ f3_; have f4_ := f1_.symm; have f5_ := f3_.symm; clear f1_ f2_ f3_; subst f4_; subst f5_))
                    have p120 : 0 ≤ (2 : Int) := (by omega)
                    have q120 : 2 < (t113.length : Int) := of_decide_eq_true (by first | (with_reducible assumption) | assumption)
                    obtain ⟨ad120, A120_1, c120_1, e120, hx120_0, hx120_1, hl120_1, hi120_1⟩ := at_T44 (Kd.N_reads' HO_1.out).2.2 2 p120 q120
                    cases e120
                    obtain ⟨ce120, hce120, hMe120, hcc120⟩ := Kd.N_get HO_1.out z44 2 p120 (by first | exact q120 | exact of_decide_eq_true (by first | (with_reducible assumption) | assumption) | (have e_ := (Kd.N_reads' HO_1.out).1; omega))
                    obtain ⟨ua120_1, uc120_1, rfl, ul120_1, ge120_1⟩ := k44_openF hMe120
                    have hv120_1 := hcc120 1 _ rfl
                    rw [add_field _ _ 1 (by omega)] at hv120_1
                    replace hv120_1 := Option.some.inj (hv120_1.symm.trans hx120_1)
                    injection hv120_1 with hva_ hvn_ hvc_
                    rw [hva_] at ge120_1
                    rw [hvc_] at ul120_1
                    have HL120_1 := Aside0.mk (show Kd.V (Kd.int .u8) 5 _ w.heap.size _ _ ((rd_T44 t113 2).f1) from Kd.V_mk ul120_1 ge120_1)
                    clear hva_ hvn_ hvc_ ge120_1 ul120_1
                    clear hcc120 hce120
                    (try simp only [show (2 : Int).toNat = 2 from rfl, Nat.reduceMul, Nat.reduceEqDiff, Go.Addr.add, ↓reduceIte] at hx120_0)
                    (try simp only [show (2 : Int).toNat = 2 from rfl, Nat.reduceMul, Nat.reduceEqDiff, Go.Addr.add, ↓reduceIte] at hx120_1)
                    have qi120 : (2 < t113.length) = True := eq_true (by omega)
                    (try rw [show ((2 : Int)).toNat = 2 from rfl] at hx120_0)
                    (try rw [show 2 * 2 = 4 from rfl] at hx120_0)
                    (try rw [show ((2 : Int)).toNat = 2 from rfl] at hx120_1)
                    (try rw [show 2 * 2 = 4 from rfl] at hx120_1)
                    have HR120_1 := Aside0.mk hi120_1
                    have HC120_1 := Aside0.mk hl120_1
                    clear hi120_1 hl120_1
                    replace p120 := eq_true p120
                    replace q120 := eq_true q120
                    have p121 : 0 ≤ (0 : Int) := (by omega)
                    have q121 : 0 < (t113.length : Int) := of_decide_eq_true (by first | (with_reducible assumption) | assumption)
                    obtain ⟨ad121, A121_1, c121_1, e121, hx121_0, hx121_1, hl121_1, hi121_1⟩ := at_T44 (Kd.N_reads' HO_1.out).2.2 0 p121 q121
                    obtain rfl : ad120 = ad121 := (by injection e121)
                    obtain ⟨ce121, hce121, hMe121, hcc121⟩ := Kd.N_get HO_1.out z44 0 p121 (by first | exact q121 | exact of_decide_eq_true (by first | (with_reducible assumption) | assumption) | (have e_ := (Kd.N_reads' HO_1.out).1; omega))
                    obtain ⟨ua121_1, uc121_1, rfl, ul121_1, ge121_1⟩ := k44_openF hMe121
                    have hv121_1 := hcc121 1 _ rfl
                    rw [add_field _ _ 1 (by omega)] at hv121_1
                    replace hv121_1 := Option.some.inj (hv121_1.symm.trans hx121_1)
                    injection hv121_1 with hva_ hvn_ hvc_
                    rw [hva_] at ge121_1
                    rw [hvc_] at ul121_1
                    have HL121_1 := Aside0.mk (show Kd.V (Kd.int .u8) 5 _ w.heap.size _ _ ((rd_T44 t113 0).f1) from Kd.V_mk ul121_1 ge121_1)
                    clear hva_ hvn_ hvc_ ge121_1 ul121_1
                    clear hcc121 hce121
                    have qi121 : (0 < t113.length) = True := eq_true (by omega)
                    (try rw [show ((0 : Int)).toNat = 0 from rfl] at hx121_0)
                    (try rw [show 0 * 2 = 0 from rfl] at hx121_0)
                    (try rw [Addr.add_zero'] at hx121_0)
                    (try rw [show ((0 : Int)).toNat = 0 from rfl] at hx121_1)
                    (try rw [show 0 * 2 = 0 from rfl] at hx121_1)
                    (try rw [Addr.add_zero'] at hx121_1)
                    have HR121_1 := Aside0.mk hi121_1
                    have HC121_1 := Aside0.mk hl121_1
                    clear hi121_1 hl121_1
                    replace p121 := eq_true p121
                    replace q121 := eq_true q121
                    refine start_ (n := 13) (S := fun w' => w'.cell? ⟨ad120.block, ad120.off + 4, none⟩ = some (.int .u8 ((rd_T44 t113 2).f0)) ∧ w'.cell? ⟨ad120.block, ad120.off + 4 + 1, none⟩ = some (.slice A120_1 ((rd_T44 t113 2).f1).length c120_1) ∧ w'.cell? ad120 = some (.int .u8 ((rd_T44 t113 0).f0)) ∧ w'.cell? ⟨ad120.block, ad120.off + 1, none⟩ = some (.slice A121_1 ((rd_T44 t113 0).f1).length c121_1)) (ds := []) #[false, false, false, false, false, false, false, false, false, false, false, false, false] (by kernel_rfl) rfl rfl ⟨hx120_0, hx120_1, hx121_0, hx121_1⟩ (fun hHeld => ?_); refine with_tabW ciboriumlaw04_works.tab4 ciboriumlaw04_works.bits4 (fun HT_ HW_ => ?_)
                    generalize wc.drew = w35 at HO_1 HB HL120_1 HL121_1 HR120_1 HR121_1 hx120_0 hx120_1 hx121_0 hx121_1 hHeld ⊢
                    refine pure_ (i := 0) (N := some 35) (v := ?_) (a' := ?_) #[true, false, false, false, false, false, false, false, false, false, false, false, false] rfl rfl (any_of HT_.out (by kernel_rfl)) (fun _ _ _ h => h) (Or.inl ⟨by rfl, ?_⟩) ?_ ?_
                    rotate_left
                    · intro w'
                      go_simp
                      with_reducible rfl
                    rotate_left
                    · simp only [Act.put, List.setIfInBounds_toArray, List.set_cons_zero, List.set_cons_succ, i64_w, i32_w]
                      rfl
                    refine pure_ (i := 1) (N := some 36) (v := ?_) (a' := ?_) #[true, true, false, false, false, false, false, false, false, false, false, false, false] rfl rfl (any_of HT_.out (by kernel_rfl)) (fun _ _ _ h => h) (Or.inl ⟨by rfl, ?_⟩) ?_ ?_
                    rotate_left
                    · intro w'
                      go_simp
                      with_reducible rfl
                    rotate_left
                    · simp only [Act.put, List.setIfInBounds_toArray, List.set_cons_zero, List.set_cons_succ, i64_w, i32_w]
                      rfl
                    refine pure_ (i := 3) (N := some 38) (v := ?_) (a' := ?_) #[true, true, false, true, false, false, false, false, false, false, false, false, false] rfl rfl (any_of HT_.out (by kernel_rfl)) (fun _ _ _ h => h) (Or.inl ⟨by rfl, ?_⟩) ?_ ?_
                    rotate_left
                    · intro w'
                      go_simp
                      with_reducible rfl
                    rotate_left
                    · simp only [Act.put, List.setIfInBounds_toArray, List.set_cons_zero, List.set_cons_succ, i64_w, i32_w]
                      rfl
                    refine pure_ (i := 4) (N := some 39) (v := ?_) (a' := ?_) #[true, true, false, true, true, false, false, false, false, false, false, false, false] rfl rfl (any_of HT_.out (by kernel_rfl)) (fun _ _ _ h => h) (Or.inl ⟨by rfl, ?_⟩) ?_ ?_
                    rotate_left
                    · intro w'
                      go_simp
                      with_reducible rfl
                    rotate_left
                    · simp only [Act.put, List.setIfInBounds_toArray, List.set_cons_zero, List.set_cons_succ, i64_w, i32_w]
                      rfl
                    refine take_ (i := 2) (N := some 37) (v := ?_) (a' := ?_) #[true, true, true, true, true, false, false, false, false, false, false, false, false] rfl rfl (take_ofW HT_.out HW_.out (by kernel_rfl)) (fun _ _ _ h => h) (Or.inl ⟨by rfl, ?_⟩) hHeld ?_ ?_
                    rotate_left
                    · rintro w' ⟨s0, s1, s2, s3⟩
                      go_simp
                      with_reducible rfl
                    rotate_left
                    · simp only [Act.put, List.setIfInBounds_toArray, List.set_cons_zero, List.set_cons_succ, i64_w, i32_w]
                      rfl
                    refine take_ (i := 5) (N := some 40) (v := ?_) (a' := ?_) #[true, true, true, true, true, true, false, false, false, false, false, false, false] rfl rfl (take_ofW HT_.out HW_.out (by kernel_rfl)) (fun _ _ _ h => h) (Or.inl ⟨by rfl, ?_⟩) hHeld ?_ ?_
                    rotate_left
                    · rintro w' ⟨s0, s1, s2, s3⟩
                      go_simp
                      with_reducible rfl
                    rotate_left
                    · simp only [Act.put, List.setIfInBounds_toArray, List.set_cons_zero, List.set_cons_succ, i64_w, i32_w]
                      rfl
                    refine one_ (i := 6) (N := some 41) #[true, true, true, true, true, true, true, false, false, false, false, false, false] rfl rfl (one_of HT_.out (by kernel_rfl)) (by decide) (fun K hK => ?_)
                    refine Kd.N_lit_step k44 _ 44 ?hg (N' := 41) ?hd (xs := ([(⟨(rd_T44 t113 2).f0, (rd_T44 t113 2).f1⟩ : S44), (⟨(rd_T44 t113 0).f0, (rd_T44 t113 0).f1⟩ : S44)] : List (S44))) (inner := [.int .u8 ((rd_T44 t113 2).f0), .slice A120_1 ((rd_T44 t113 2).f1).length c120_1, .int .u8 ((rd_T44 t113 0).f0), .slice A121_1 ((rd_T44 t113 0).f1).length c121_1]) (ok := (fun k_ => some k_ ≠ (.slice (some ad120) t113.length co36 : Value).ownBlock)) (okp := (fun k_ => some k_ ≠ (.slice (some ad120) t113.length co36 : Value).ownBlock)) ?hr ?hp (fun _ hk => hk) ((show ∀ k_, w35.heap.size ≤ k_ → (fun k_ => some k_ ≠ (.slice (some ad120) t113.length co36 : Value).ownBlock) k_ from fun k_ hk => Kd.fresh' (Kd.N_lt (by (with_reducible repeat (first | apply Kd.N_alloc | apply Kd.N_drewN | apply Kd.N_drew)); exact HO_1.out)) k_ hk) _ (Nat.le_refl _)) (Below.refl _ _) (Nat.le_refl _) (by simp) ?_; (case hd => rfl); (case hg => rfl); (case hr => first | (go_simp; done) | (go_simp; rfl)); (case hp => exact (Reps.c2 (show Kd.FK k44 _ _ (⟨(rd_T44 t113 2).f0, (rd_T44 t113 2).f1⟩ : S44) [.int .u8 ((rd_T44 t113 2).f0), .slice A120_1 ((rd_T44 t113 2).f1).length c120_1] from (k44_mkF _ _ (⟨(rd_T44 t113 2).f0, (rd_T44 t113 2).f1⟩ : S44) (Kd.V_reads' (Kd.V_mono (ok' := (fun k_ => some k_ ≠ (.slice (some ad120) t113.length co36 : Value).ownBlock)) (HL120_1.out) (fun k_ hk => hk.2))).2.1 (Kd.V_F (Kd.V_mono (ok' := (fun k_ => some k_ ≠ (.slice (some ad120) t113.length co36 : Value).ownBlock)) (HL120_1.out) (fun k_ hk => hk.2))))) (Reps.c2 (show Kd.FK k44 _ _ (⟨(rd_T44 t113 0).f0, (rd_T44 t113 0).f1⟩ : S44) [.int .u8 ((rd_T44 t113 0).f0), .slice A121_1 ((rd_T44 t113 0).f1).length c121_1] from (k44_mkF _ _ (⟨(rd_T44 t113 0).f0, (rd_T44 t113 0).f1⟩ : S44) (Kd.V_reads' (Kd.V_mono (ok' := (fun k_ => some k_ ≠ (.slice (some ad120) t113.length co36 : Value).ownBlock)) (HL121_1.out) (fun k_ hk => hk.2))).2.1 (Kd.V_F (Kd.V_mono (ok' := (fun k_ => some k_ ≠ (.slice (some ad120) t113.length co36 : Value).ownBlock)) (HL121_1.out) (fun k_ hk => hk.2))))) (Reps.none _ _))))
                    intro v123 w37 ho38 hb hg_ hnew_
                    have HS0_ := (hb.cell (World.block_lt_of_cell? _ _ (hHeld.1))).trans (hHeld.1)
                    have HS1_ := (hb.cell (World.block_lt_of_cell? _ _ (hHeld.2.1))).trans (hHeld.2.1)
                    have HS2_ := (hb.cell (World.block_lt_of_cell? _ _ (hHeld.2.2.1))).trans (hHeld.2.2.1)
                    have HS3_ := (hb.cell (World.block_lt_of_cell? _ _ (hHeld.2.2.2))).trans (hHeld.2.2.2)
                    clear hg_ hnew_
                    (first | rw [← Ny122.out] at ho38 | (simp only [Int.reduceToNat] at ho38; rw [← Ny122.out] at ho38))
                    have n0_ := Aside0.mk (Kd.N_elder' (by (with_reducible repeat (first | apply Kd.N_alloc | apply Kd.N_drewN | apply Kd.N_drew)); exact HO_1.out) (Kd.N_base ho38) hb)
                    have n1_ := Aside0.mk (Kd.V_elder' (by (with_reducible repeat (first | apply Kd.V_alloc | apply Kd.V_drewN | apply Kd.V_drew)); exact HL120_1.out) (Kd.N_base ho38) hb)
                    have n2_ := Aside0.mk (Kd.V_elder' (by (with_reducible repeat (first | apply Kd.V_alloc | apply Kd.V_drewN | apply Kd.V_drew)); exact HL121_1.out) (Kd.N_base ho38) hb)
                    have n3_ := Aside0.mk (Kd.N_lower ho38 (below_size (by repeat (first | (with_reducible first | exact HB.out | apply below_alloc | apply pw_below_drewN | apply below_drew1) | exact HB.out))))
                    have n4_ := Aside0.mk (Kd.C_below (by repeat (first | (with_reducible exact HR120_1.out) | (with_reducible refine Kd.C_alloc ?_ _) | (with_reducible refine Kd.C_drewN ?_ _) | (with_reducible refine Kd.C_drew ?_) | exact HR120_1.out)) hb)
                    have n5_ := Aside0.mk (Kd.C_below (by repeat (first | (with_reducible exact HR121_1.out) | (with_reducible refine Kd.C_alloc ?_ _) | (with_reducible refine Kd.C_drewN ?_ _) | (with_reducible refine Kd.C_drew ?_) | exact HR121_1.out)) hb)
                    have n6_ := Aside0.mk (below_step (by repeat (first | (with_reducible first | exact HB.out | apply below_alloc | apply pw_below_drewN | apply below_drew1) | exact HB.out)) hb)
                    clear HO_1
                    clear HL120_1
                    clear HL121_1
                    clear HR120_1
                    clear HR121_1
                    clear HB
                    have HO_1 := n0_
                    have HL120_1 := n1_
                    have HL121_1 := n2_
                    have HO124 := n3_
                    have HR120_1 := n4_
                    have HR121_1 := n5_
                    have HB := n6_
                    clear n0_ n1_ n2_ n3_ n4_ n5_ n6_
                    clear hb ho38
                    obtain ⟨Ao39, co39, eo39⟩ := Kd.N_slice HO124.out
                    (first | subst eo39 | (injection eo39 with f1_ f2_ f3_; have f4_ := f1_.symm; have f5_ := f3_.symm; clear f1_ f2_ f3_; subst f4_; subst f5_))
                    refine hK.out _ _ ⟨HS0_, HS1_, HS2_, HS3_⟩ (fun hHeld => ?_)
                    clear hK K
                    refine norm_ (a' := ?_) ?_ ?_
                    rotate_left
                    · show Act.put _ (some 41) _ = _
                      simp only [Act.put, List.setIfInBounds_toArray, List.set_cons_zero, List.set_cons_succ, i64_w, i32_w]
                      rfl
                    refine one_ (i := 7) (N := some 42) #[true, true, true, true, true, true, true, true, false, false, false, false, false] rfl rfl (one_of HT_.out (by kernel_rfl)) (by decide) (fun K hK => ?_)
                    refine goes_ Try.func24 (by kernel_rfl) rfl #[.slice Ao39 y122.length co39] (by rfl) rfl rfl (by (try simp only [List.map_toArray, List.map_cons, List.map_nil]); first | done | rfl | (simp only [List.length_drop, List.length_take]; rfl)) ?_
                    with_reducible refine (share_Combine.calls _ _ y122 t125 t126 _ ?side1 ?side2 A21.out).mono ?_
                    (case side1 => repeat (first | exact (Kd.N_reads' HO124.out).2.2 | (with_reducible refine Kd.C_alloc ?_ _) | (with_reducible refine Kd.C_drewN ?_ _) | (with_reducible refine Kd.C_drew ?_)))
                    (case side2 => exact (Kd.N_reads' HO124.out).2.1)
                    rintro e w40 ⟨v127, rfl, ho0, hb⟩
                    have HS0_ := (hb.cell (World.block_lt_of_cell? _ _ (hHeld.1))).trans (hHeld.1)
                    have HS1_ := (hb.cell (World.block_lt_of_cell? _ _ (hHeld.2.1))).trans (hHeld.2.1)
                    have HS2_ := (hb.cell (World.block_lt_of_cell? _ _ (hHeld.2.2.1))).trans (hHeld.2.2.1)
                    have HS3_ := (hb.cell (World.block_lt_of_cell? _ _ (hHeld.2.2.2))).trans (hHeld.2.2.2)
                    refine ⟨_, rfl, ?_⟩
                    have n0_ := Aside0.mk (Kd.N_elder' (by (with_reducible repeat (first | apply Kd.N_alloc | apply Kd.N_drewN | apply Kd.N_drew)); exact HO_1.out) (Kd.R_base ho0) hb)
                    have n1_ := Aside0.mk (Kd.V_elder' (by (with_reducible repeat (first | apply Kd.V_alloc | apply Kd.V_drewN | apply Kd.V_drew)); exact HL120_1.out) (Kd.R_base ho0) hb)
                    have n2_ := Aside0.mk (Kd.V_elder' (by (with_reducible repeat (first | apply Kd.V_alloc | apply Kd.V_drewN | apply Kd.V_drew)); exact HL121_1.out) (Kd.R_base ho0) hb)
                    have n3_ := Aside0.mk (Kd.N_elder' (by (with_reducible repeat (first | apply Kd.N_alloc | apply Kd.N_drewN | apply Kd.N_drew)); exact HO124.out) (Kd.R_base ho0) hb)
                    have n4_ := Aside0.mk (Kd.R_lower ho0 (below_size (by repeat (first | (with_reducible first | exact HB.out | apply below_alloc | apply pw_below_drewN | apply below_drew1) | exact HB.out))))
                    have n5_ := Aside0.mk (Kd.C_below (by repeat (first | (with_reducible exact HR120_1.out) | (with_reducible refine Kd.C_alloc ?_ _) | (with_reducible refine Kd.C_drewN ?_ _) | (with_reducible refine Kd.C_drew ?_) | exact HR120_1.out)) hb)
                    have n6_ := Aside0.mk (Kd.C_below (by repeat (first | (with_reducible exact HR121_1.out) | (with_reducible refine Kd.C_alloc ?_ _) | (with_reducible refine Kd.C_drewN ?_ _) | (with_reducible refine Kd.C_drew ?_) | exact HR121_1.out)) hb)
                    have n7_ := Aside0.mk (below_step (by repeat (first | (with_reducible first | exact HB.out | apply below_alloc | apply pw_below_drewN | apply below_drew1) | exact HB.out)) hb)
                    clear HO_1
                    clear HL120_1
                    clear HL121_1
                    clear HO124
                    clear HR120_1
                    clear HR121_1
                    clear HB
                    have HO_1 := n0_
                    have HL120_1 := n1_
                    have HL121_1 := n2_
                    have HO124 := n3_
                    have HO128 := n4_
                    have HR120_1 := n5_
                    have HR121_1 := n6_
                    have HB := n7_
                    clear n0_ n1_ n2_ n3_ n4_ n5_ n6_ n7_
                    (try clear hb)
                    (try clear hb2)
                    (try clear hk)
                    (try clear hi)
                    (try clear ho0)
                    refine hK.out _ _ ⟨HS0_, HS1_, HS2_, HS3_⟩ (fun hHeld => ?_)
                    clear hK K
                    refine norm_ (a' := ?_) ?_ ?_
                    rotate_left
                    · show Act.put _ (some 42) _ = _
                      simp only [Act.put, List.setIfInBounds_toArray, List.set_cons_zero, List.set_cons_succ, i64_w, i32_w]
                      rfl
                    refine pure_ (i := 8) (N := some 34) (v := ?_) (a' := ?_) #[true, true, true, true, true, true, true, true, true, false, false, false, false] rfl rfl (any_of HT_.out (by kernel_rfl)) (fun _ _ _ h => h) (Or.inl ⟨by rfl, ?_⟩) ?_ ?_
                    rotate_left
                    · intro w'
                      go_simp
                      with_reducible rfl
                    rotate_left
                    · simp only [Act.put, List.setIfInBounds_toArray, List.set_cons_zero, List.set_cons_succ, i64_w, i32_w]
                      rfl
                    refine pure_ (i := 9) (N := some 43) (v := ?_) (a' := ?_) #[true, true, true, true, true, true, true, true, true, true, false, false, false] rfl rfl (any_of HT_.out (by kernel_rfl)) (fun _ _ _ h => h) (Or.inl ⟨by rfl, ?_⟩) ?_ ?_
                    rotate_left
                    · intro w'
                      go_simp
                      with_reducible rfl
                    rotate_left
                    · simp only [Act.put, List.setIfInBounds_toArray, List.set_cons_zero, List.set_cons_succ, i64_w, i32_w]
                      rfl
                    refine pure_ (i := 10) (N := some 44) (v := ?_) (a' := ?_) #[true, true, true, true, true, true, true, true, true, true, true, false, false] rfl rfl (any_of HT_.out (by kernel_rfl)) (fun _ _ _ h => h) (Or.inl ⟨by rfl, ?_⟩) ?_ ?_
                    rotate_left
                    · intro w'
                      go_simp
                      with_reducible rfl
                    rotate_left
                    · simp only [Act.put, List.setIfInBounds_toArray, List.set_cons_zero, List.set_cons_succ, i64_w, i32_w]
                      rfl
                    refine pure_ (i := 11) (N := some 3) (v := ?_) (a' := ?_) #[true, true, true, true, true, true, true, true, true, true, true, true, false] rfl rfl (any_of HT_.out (by kernel_rfl)) (fun _ _ _ h => h) (Or.inl ⟨by rfl, ?_⟩) ?_ ?_
                    rotate_left
                    · intro w'
                      go_simp
                      with_reducible rfl
                    rotate_left
                    · simp only [Act.put, List.setIfInBounds_toArray, List.set_cons_zero, List.set_cons_succ, i64_w, i32_w]
                      rfl
                    refine pure_ (i := 12) (N := some 2) (v := ?_) (a' := ?_) #[true, true, true, true, true, true, true, true, true, true, true, true, true] rfl rfl (any_of HT_.out (by kernel_rfl)) (fun _ _ _ h => h) (Or.inl ⟨by rfl, ?_⟩) ?_ ?_
                    rotate_left
                    · intro w'
                      go_simp
                      with_reducible rfl
                    rotate_left
                    · simp only [Act.put, List.setIfInBounds_toArray, List.set_cons_zero, List.set_cons_succ, i64_w, i32_w]
                      rfl
                    refine done_ (done_of HT_.out (by kernel_rfl)) ?_
                    obtain ⟨Ao41, co41, eo41⟩ := Kd.R_slice HO128.out
                    subst eo41
                    have p129 : 0 ≤ (0 : Int) := (by omega)
                    have q129 : 0 < (t125.length : Int) := of_decide_eq_true (by first | (with_reducible assumption) | assumption)
                    obtain ⟨ad129, e129, hx129_0⟩ := Kd.at_int (Kd.R_reads' HO128.out).2.2 0 p129 q129
                    cases e129
                    have qi129 : (0 < t125.length) = True := eq_true (by omega)
                    (try rw [show ((0 : Int)).toNat = 0 from rfl] at hx129_0)
                    (try rw [Addr.add_zero'] at hx129_0)
                    replace p129 := eq_true p129
                    replace q129 := eq_true q129
                    try go_wp2
                    go_ret
                    exact ⟨by first | rfl | (simp [errW_none, errW_some] <;> rfl) | (simp [*, errW_none, errW_some] <;> rfl), by repeat (first | (with_reducible first | exact HB.out | apply below_alloc | apply pw_below_drewN | apply below_drew1) | exact HB.out)⟩
                · rw [if_neg c24] at H
                  exact absurd H (by simp)
              · rw [if_neg c23] at H
                have c23b0 : ((t125.length : Int) == 1) = false := beq_eq_false_iff_ne.mpr c23
                have c23b1 : ((t125.length : Int) != 1) = true := bne_iff_ne.mpr c23
                obtain rfl := Option.some.inj H
                try go_wp2
                have n0_ := Aside0.mk (Kd.N_drew HO_1.out)
                have n1_ := Aside0.mk (below_drew1 HB.out)
                clear HO_1
                clear HB
                have HO_1 := n0_
                have HB := n1_
                clear n0_ n1_
                obtain ⟨Ao43, co43, eo43⟩ := Kd.N_slice HO_1.out
                (first | subst eo43 | (injection eo43 with f1_ f2_ f3_; have f4_ := f1_.symm; have f5_ := f3_.symm; clear f1_ f2_ f3_; subst f4_; subst f5_))
                have p120 : 0 ≤ (2 : Int) := (by omega)
                have q120 : 2 < (t113.length : Int) := of_decide_eq_true (by first | (with_reducible assumption) | assumption)
                obtain ⟨ad120, A120_1, c120_1, e120, hx120_0, hx120_1, hl120_1, hi120_1⟩ := at_T44 (Kd.N_reads' HO_1.out).2.2 2 p120 q120
                cases e120
                obtain ⟨ce120, hce120, hMe120, hcc120⟩ := Kd.N_get HO_1.out z44 2 p120 (by first | exact q120 | exact of_decide_eq_true (by first | (with_reducible assumption) | assumption) | (have e_ := (Kd.N_reads' HO_1.out).1; omega))
                obtain ⟨ua120_1, uc120_1, rfl, ul120_1, ge120_1⟩ := k44_openF hMe120
                have hv120_1 := hcc120 1 _ rfl
                rw [add_field _ _ 1 (by omega)] at hv120_1
                replace hv120_1 := Option.some.inj (hv120_1.symm.trans hx120_1)
                injection hv120_1 with hva_ hvn_ hvc_
                rw [hva_] at ge120_1
                rw [hvc_] at ul120_1
                have HL120_1 := Aside0.mk (show Kd.V (Kd.int .u8) 5 _ w.heap.size _ _ ((rd_T44 t113 2).f1) from Kd.V_mk ul120_1 ge120_1)
                clear hva_ hvn_ hvc_ ge120_1 ul120_1
                clear hcc120 hce120
                (try simp only [show (2 : Int).toNat = 2 from rfl, Nat.reduceMul, Nat.reduceEqDiff, Go.Addr.add, ↓reduceIte] at hx120_0)
                (try simp only [show (2 : Int).toNat = 2 from rfl, Nat.reduceMul, Nat.reduceEqDiff, Go.Addr.add, ↓reduceIte] at hx120_1)
                have qi120 : (2 < t113.length) = True := eq_true (by omega)
                (try rw [show ((2 : Int)).toNat = 2 from rfl] at hx120_0)
                (try rw [show 2 * 2 = 4 from rfl] at hx120_0)
                (try rw [show ((2 : Int)).toNat = 2 from rfl] at hx120_1)
                (try rw [show 2 * 2 = 4 from rfl] at hx120_1)
                have HR120_1 := Aside0.mk hi120_1
                have HC120_1 := Aside0.mk hl120_1
                clear hi120_1 hl120_1
                replace p120 := eq_true p120
                replace q120 := eq_true q120
                have p121 : 0 ≤ (0 : Int) := (by omega)
                have q121 : 0 < (t113.length : Int) := of_decide_eq_true (by first | (with_reducible assumption) | assumption)
                obtain ⟨ad121, A121_1, c121_1, e121, hx121_0, hx121_1, hl121_1, hi121_1⟩ := at_T44 (Kd.N_reads' HO_1.out).2.2 0 p121 q121
                obtain rfl : ad120 = ad121 := (by injection e121)
                obtain ⟨ce121, hce121, hMe121, hcc121⟩ := Kd.N_get HO_1.out z44 0 p121 (by first | exact q121 | exact of_decide_eq_true (by first | (with_reducible assumption) | assumption) | (have e_ := (Kd.N_reads' HO_1.out).1; omega))
                obtain ⟨ua121_1, uc121_1, rfl, ul121_1, ge121_1⟩ := k44_openF hMe121
                have hv121_1 := hcc121 1 _ rfl
                rw [add_field _ _ 1 (by omega)] at hv121_1
                replace hv121_1 := Option.some.inj (hv121_1.symm.trans hx121_1)
                injection hv121_1 with hva_ hvn_ hvc_
                rw [hva_] at ge121_1
                rw [hvc_] at ul121_1
                have HL121_1 := Aside0.mk (show Kd.V (Kd.int .u8) 5 _ w.heap.size _ _ ((rd_T44 t113 0).f1) from Kd.V_mk ul121_1 ge121_1)
                clear hva_ hvn_ hvc_ ge121_1 ul121_1
                clear hcc121 hce121
                have qi121 : (0 < t113.length) = True := eq_true (by omega)
                (try rw [show ((0 : Int)).toNat = 0 from rfl] at hx121_0)
                (try rw [show 0 * 2 = 0 from rfl] at hx121_0)
                (try rw [Addr.add_zero'] at hx121_0)
                (try rw [show ((0 : Int)).toNat = 0 from rfl] at hx121_1)
                (try rw [show 0 * 2 = 0 from rfl] at hx121_1)
                (try rw [Addr.add_zero'] at hx121_1)
                have HR121_1 := Aside0.mk hi121_1
                have HC121_1 := Aside0.mk hl121_1
                clear hi121_1 hl121_1
                replace p121 := eq_true p121
                replace q121 := eq_true q121
                refine start_ (n := 13) (S := fun w' => w'.cell? ⟨ad120.block, ad120.off + 4, none⟩ = some (.int .u8 ((rd_T44 t113 2).f0)) ∧ w'.cell? ⟨ad120.block, ad120.off + 4 + 1, none⟩ = some (.slice A120_1 ((rd_T44 t113 2).f1).length c120_1) ∧ w'.cell? ad120 = some (.int .u8 ((rd_T44 t113 0).f0)) ∧ w'.cell? ⟨ad120.block, ad120.off + 1, none⟩ = some (.slice A121_1 ((rd_T44 t113 0).f1).length c121_1)) (ds := []) #[false, false, false, false, false, false, false, false, false, false, false, false, false] (by kernel_rfl) rfl rfl ⟨hx120_0, hx120_1, hx121_0, hx121_1⟩ (fun hHeld => ?_); refine with_tabW ciboriumlaw04_works.tab4 ciboriumlaw04_works.bits4 (fun HT_ HW_ => ?_)
                generalize wc.drew = w42 at HO_1 HB HL120_1 HL121_1 HR120_1 HR121_1 hx120_0 hx120_1 hx121_0 hx121_1 hHeld ⊢
                refine pure_ (i := 0) (N := some 35) (v := ?_) (a' := ?_) #[true, false, false, false, false, false, false, false, false, false, false, false, false] rfl rfl (any_of HT_.out (by kernel_rfl)) (fun _ _ _ h => h) (Or.inl ⟨by rfl, ?_⟩) ?_ ?_
                rotate_left
                · intro w'
                  go_simp
                  with_reducible rfl
                rotate_left
                · simp only [Act.put, List.setIfInBounds_toArray, List.set_cons_zero, List.set_cons_succ, i64_w, i32_w]
                  rfl
                refine pure_ (i := 1) (N := some 36) (v := ?_) (a' := ?_) #[true, true, false, false, false, false, false, false, false, false, false, false, false] rfl rfl (any_of HT_.out (by kernel_rfl)) (fun _ _ _ h => h) (Or.inl ⟨by rfl, ?_⟩) ?_ ?_
                rotate_left
                · intro w'
                  go_simp
                  with_reducible rfl
                rotate_left
                · simp only [Act.put, List.setIfInBounds_toArray, List.set_cons_zero, List.set_cons_succ, i64_w, i32_w]
                  rfl
                refine pure_ (i := 3) (N := some 38) (v := ?_) (a' := ?_) #[true, true, false, true, false, false, false, false, false, false, false, false, false] rfl rfl (any_of HT_.out (by kernel_rfl)) (fun _ _ _ h => h) (Or.inl ⟨by rfl, ?_⟩) ?_ ?_
                rotate_left
                · intro w'
                  go_simp
                  with_reducible rfl
                rotate_left
                · simp only [Act.put, List.setIfInBounds_toArray, List.set_cons_zero, List.set_cons_succ, i64_w, i32_w]
                  rfl
                refine pure_ (i := 4) (N := some 39) (v := ?_) (a' := ?_) #[true, true, false, true, true, false, false, false, false, false, false, false, false] rfl rfl (any_of HT_.out (by kernel_rfl)) (fun _ _ _ h => h) (Or.inl ⟨by rfl, ?_⟩) ?_ ?_
                rotate_left
                · intro w'
                  go_simp
                  with_reducible rfl
                rotate_left
                · simp only [Act.put, List.setIfInBounds_toArray, List.set_cons_zero, List.set_cons_succ, i64_w, i32_w]
                  rfl
                refine take_ (i := 2) (N := some 37) (v := ?_) (a' := ?_) #[true, true, true, true, true, false, false, false, false, false, false, false, false] rfl rfl (take_ofW HT_.out HW_.out (by kernel_rfl)) (fun _ _ _ h => h) (Or.inl ⟨by rfl, ?_⟩) hHeld ?_ ?_
                rotate_left
                · rintro w' ⟨s0, s1, s2, s3⟩
                  go_simp
                  with_reducible rfl
                rotate_left
                · simp only [Act.put, List.setIfInBounds_toArray, List.set_cons_zero, List.set_cons_succ, i64_w, i32_w]
                  rfl
                refine take_ (i := 5) (N := some 40) (v := ?_) (a' := ?_) #[true, true, true, true, true, true, false, false, false, false, false, false, false] rfl rfl (take_ofW HT_.out HW_.out (by kernel_rfl)) (fun _ _ _ h => h) (Or.inl ⟨by rfl, ?_⟩) hHeld ?_ ?_
                rotate_left
                · rintro w' ⟨s0, s1, s2, s3⟩
                  go_simp
                  with_reducible rfl
                rotate_left
                · simp only [Act.put, List.setIfInBounds_toArray, List.set_cons_zero, List.set_cons_succ, i64_w, i32_w]
                  rfl
                refine one_ (i := 6) (N := some 41) #[true, true, true, true, true, true, true, false, false, false, false, false, false] rfl rfl (one_of HT_.out (by kernel_rfl)) (by decide) (fun K hK => ?_)
                refine Kd.N_lit_step k44 _ 44 ?hg (N' := 41) ?hd (xs := ([(⟨(rd_T44 t113 2).f0, (rd_T44 t113 2).f1⟩ : S44), (⟨(rd_T44 t113 0).f0, (rd_T44 t113 0).f1⟩ : S44)] : List (S44))) (inner := [.int .u8 ((rd_T44 t113 2).f0), .slice A120_1 ((rd_T44 t113 2).f1).length c120_1, .int .u8 ((rd_T44 t113 0).f0), .slice A121_1 ((rd_T44 t113 0).f1).length c121_1]) (ok := (fun k_ => some k_ ≠ (.slice (some ad120) t113.length co43 : Value).ownBlock)) (okp := (fun k_ => some k_ ≠ (.slice (some ad120) t113.length co43 : Value).ownBlock)) ?hr ?hp (fun _ hk => hk) ((show ∀ k_, w42.heap.size ≤ k_ → (fun k_ => some k_ ≠ (.slice (some ad120) t113.length co43 : Value).ownBlock) k_ from fun k_ hk => Kd.fresh' (Kd.N_lt (by (with_reducible repeat (first | apply Kd.N_alloc | apply Kd.N_drewN | apply Kd.N_drew)); exact HO_1.out)) k_ hk) _ (Nat.le_refl _)) (Below.refl _ _) (Nat.le_refl _) (by simp) ?_; (case hd => rfl); (case hg => rfl); (case hr => first | (go_simp; done) | (go_simp; rfl)); (case hp => exact (Reps.c2 (show Kd.FK k44 _ _ (⟨(rd_T44 t113 2).f0, (rd_T44 t113 2).f1⟩ : S44) [.int .u8 ((rd_T44 t113 2).f0), .slice A120_1 ((rd_T44 t113 2).f1).length c120_1] from (k44_mkF _ _ (⟨(rd_T44 t113 2).f0, (rd_T44 t113 2).f1⟩ : S44) (Kd.V_reads' (Kd.V_mono (ok' := (fun k_ => some k_ ≠ (.slice (some ad120) t113.length co43 : Value).ownBlock)) (HL120_1.out) (fun k_ hk => hk.2))).2.1 (Kd.V_F (Kd.V_mono (ok' := (fun k_ => some k_ ≠ (.slice (some ad120) t113.length co43 : Value).ownBlock)) (HL120_1.out) (fun k_ hk => hk.2))))) (Reps.c2 (show Kd.FK k44 _ _ (⟨(rd_T44 t113 0).f0, (rd_T44 t113 0).f1⟩ : S44) [.int .u8 ((rd_T44 t113 0).f0), .slice A121_1 ((rd_T44 t113 0).f1).length c121_1] from (k44_mkF _ _ (⟨(rd_T44 t113 0).f0, (rd_T44 t113 0).f1⟩ : S44) (Kd.V_reads' (Kd.V_mono (ok' := (fun k_ => some k_ ≠ (.slice (some ad120) t113.length co43 : Value).ownBlock)) (HL121_1.out) (fun k_ hk => hk.2))).2.1 (Kd.V_F (Kd.V_mono (ok' := (fun k_ => some k_ ≠ (.slice (some ad120) t113.length co43 : Value).ownBlock)) (HL121_1.out) (fun k_ hk => hk.2))))) (Reps.none _ _))))
                intro v123 w44 ho45 hb hg_ hnew_
                have HS0_ := (hb.cell (World.block_lt_of_cell? _ _ (hHeld.1))).trans (hHeld.1)
                have HS1_ := (hb.cell (World.block_lt_of_cell? _ _ (hHeld.2.1))).trans (hHeld.2.1)
                have HS2_ := (hb.cell (World.block_lt_of_cell? _ _ (hHeld.2.2.1))).trans (hHeld.2.2.1)
                have HS3_ := (hb.cell (World.block_lt_of_cell? _ _ (hHeld.2.2.2))).trans (hHeld.2.2.2)
                clear hg_ hnew_
                (first | rw [← Ny122.out] at ho45 | (simp only [Int.reduceToNat] at ho45; rw [← Ny122.out] at ho45))
                have n0_ := Aside0.mk (Kd.N_elder' (by (with_reducible repeat (first | apply Kd.N_alloc | apply Kd.N_drewN | apply Kd.N_drew)); exact HO_1.out) (Kd.N_base ho45) hb)
                have n1_ := Aside0.mk (Kd.V_elder' (by (with_reducible repeat (first | apply Kd.V_alloc | apply Kd.V_drewN | apply Kd.V_drew)); exact HL120_1.out) (Kd.N_base ho45) hb)
                have n2_ := Aside0.mk (Kd.V_elder' (by (with_reducible repeat (first | apply Kd.V_alloc | apply Kd.V_drewN | apply Kd.V_drew)); exact HL121_1.out) (Kd.N_base ho45) hb)
                have n3_ := Aside0.mk (Kd.N_lower ho45 (below_size (by repeat (first | (with_reducible first | exact HB.out | apply below_alloc | apply pw_below_drewN | apply below_drew1) | exact HB.out))))
                have n4_ := Aside0.mk (Kd.C_below (by repeat (first | (with_reducible exact HR120_1.out) | (with_reducible refine Kd.C_alloc ?_ _) | (with_reducible refine Kd.C_drewN ?_ _) | (with_reducible refine Kd.C_drew ?_) | exact HR120_1.out)) hb)
                have n5_ := Aside0.mk (Kd.C_below (by repeat (first | (with_reducible exact HR121_1.out) | (with_reducible refine Kd.C_alloc ?_ _) | (with_reducible refine Kd.C_drewN ?_ _) | (with_reducible refine Kd.C_drew ?_) | exact HR121_1.out)) hb)
                have n6_ := Aside0.mk (below_step (by repeat (first | (with_reducible first | exact HB.out | apply below_alloc | apply pw_below_drewN | apply below_drew1) | exact HB.out)) hb)
                clear HO_1
                clear HL120_1
                clear HL121_1
                clear HR120_1
                clear HR121_1
                clear HB
                have HO_1 := n0_
                have HL120_1 := n1_
                have HL121_1 := n2_
                have HO124 := n3_
                have HR120_1 := n4_
                have HR121_1 := n5_
                have HB := n6_
                clear n0_ n1_ n2_ n3_ n4_ n5_ n6_
                clear hb ho45
                obtain ⟨Ao46, co46, eo46⟩ := Kd.N_slice HO124.out
                (first | subst eo46 | (injection eo46 with f1_ f2_ f3_; have f4_ := f1_.symm; have f5_ := f3_.symm; clear f1_ f2_ f3_; subst f4_; subst f5_))
                refine hK.out _ _ ⟨HS0_, HS1_, HS2_, HS3_⟩ (fun hHeld => ?_)
                clear hK K
                refine norm_ (a' := ?_) ?_ ?_
                rotate_left
                · show Act.put _ (some 41) _ = _
                  simp only [Act.put, List.setIfInBounds_toArray, List.set_cons_zero, List.set_cons_succ, i64_w, i32_w]
                  rfl
                refine one_ (i := 7) (N := some 42) #[true, true, true, true, true, true, true, true, false, false, false, false, false] rfl rfl (one_of HT_.out (by kernel_rfl)) (by decide) (fun K hK => ?_)
                refine goes_ Try.func24 (by kernel_rfl) rfl #[.slice Ao46 y122.length co46] (by rfl) rfl rfl (by (try simp only [List.map_toArray, List.map_cons, List.map_nil]); first | done | rfl | (simp only [List.length_drop, List.length_take]; rfl)) ?_
                with_reducible refine (share_Combine.calls _ _ y122 t125 t126 _ ?side1 ?side2 A21.out).mono ?_
                (case side1 => repeat (first | exact (Kd.N_reads' HO124.out).2.2 | (with_reducible refine Kd.C_alloc ?_ _) | (with_reducible refine Kd.C_drewN ?_ _) | (with_reducible refine Kd.C_drew ?_)))
                (case side2 => exact (Kd.N_reads' HO124.out).2.1)
                rintro e w47 ⟨v127, rfl, ho0, hb⟩
                have HS0_ := (hb.cell (World.block_lt_of_cell? _ _ (hHeld.1))).trans (hHeld.1)
                have HS1_ := (hb.cell (World.block_lt_of_cell? _ _ (hHeld.2.1))).trans (hHeld.2.1)
                have HS2_ := (hb.cell (World.block_lt_of_cell? _ _ (hHeld.2.2.1))).trans (hHeld.2.2.1)
                have HS3_ := (hb.cell (World.block_lt_of_cell? _ _ (hHeld.2.2.2))).trans (hHeld.2.2.2)
                refine ⟨_, rfl, ?_⟩
                have n0_ := Aside0.mk (Kd.N_elder' (by (with_reducible repeat (first | apply Kd.N_alloc | apply Kd.N_drewN | apply Kd.N_drew)); exact HO_1.out) (Kd.R_base ho0) hb)
                have n1_ := Aside0.mk (Kd.V_elder' (by (with_reducible repeat (first | apply Kd.V_alloc | apply Kd.V_drewN | apply Kd.V_drew)); exact HL120_1.out) (Kd.R_base ho0) hb)
                have n2_ := Aside0.mk (Kd.V_elder' (by (with_reducible repeat (first | apply Kd.V_alloc | apply Kd.V_drewN | apply Kd.V_drew)); exact HL121_1.out) (Kd.R_base ho0) hb)
                have n3_ := Aside0.mk (Kd.N_elder' (by (with_reducible repeat (first | apply Kd.N_alloc | apply Kd.N_drewN | apply Kd.N_drew)); exact HO124.out) (Kd.R_base ho0) hb)
                have n4_ := Aside0.mk (Kd.R_lower ho0 (below_size (by repeat (first | (with_reducible first | exact HB.out | apply below_alloc | apply pw_below_drewN | apply below_drew1) | exact HB.out))))
                have n5_ := Aside0.mk (Kd.C_below (by repeat (first | (with_reducible exact HR120_1.out) | (with_reducible refine Kd.C_alloc ?_ _) | (with_reducible refine Kd.C_drewN ?_ _) | (with_reducible refine Kd.C_drew ?_) | exact HR120_1.out)) hb)
                have n6_ := Aside0.mk (Kd.C_below (by repeat (first | (with_reducible exact HR121_1.out) | (with_reducible refine Kd.C_alloc ?_ _) | (with_reducible refine Kd.C_drewN ?_ _) | (with_reducible refine Kd.C_drew ?_) | exact HR121_1.out)) hb)
                have n7_ := Aside0.mk (below_step (by repeat (first | (with_reducible first | exact HB.out | apply below_alloc | apply pw_below_drewN | apply below_drew1) | exact HB.out)) hb)
                clear HO_1
                clear HL120_1
                clear HL121_1
                clear HO124
                clear HR120_1
                clear HR121_1
                clear HB
                have HO_1 := n0_
                have HL120_1 := n1_
                have HL121_1 := n2_
                have HO124 := n3_
                have HO128 := n4_
                have HR120_1 := n5_
                have HR121_1 := n6_
                have HB := n7_
                clear n0_ n1_ n2_ n3_ n4_ n5_ n6_ n7_
                (try clear hb)
                (try clear hb2)
                (try clear hk)
                (try clear hi)
                (try clear ho0)
                refine hK.out _ _ ⟨HS0_, HS1_, HS2_, HS3_⟩ (fun hHeld => ?_)
                clear hK K
                refine norm_ (a' := ?_) ?_ ?_
                rotate_left
                · show Act.put _ (some 42) _ = _
                  simp only [Act.put, List.setIfInBounds_toArray, List.set_cons_zero, List.set_cons_succ, i64_w, i32_w]
                  rfl
                refine pure_ (i := 8) (N := some 34) (v := ?_) (a' := ?_) #[true, true, true, true, true, true, true, true, true, false, false, false, false] rfl rfl (any_of HT_.out (by kernel_rfl)) (fun _ _ _ h => h) (Or.inl ⟨by rfl, ?_⟩) ?_ ?_
                rotate_left
                · intro w'
                  go_simp
                  with_reducible rfl
                rotate_left
                · simp only [Act.put, List.setIfInBounds_toArray, List.set_cons_zero, List.set_cons_succ, i64_w, i32_w]
                  rfl
                refine pure_ (i := 9) (N := some 43) (v := ?_) (a' := ?_) #[true, true, true, true, true, true, true, true, true, true, false, false, false] rfl rfl (any_of HT_.out (by kernel_rfl)) (fun _ _ _ h => h) (Or.inl ⟨by rfl, ?_⟩) ?_ ?_
                rotate_left
                · intro w'
                  go_simp
                  with_reducible rfl
                rotate_left
                · simp only [Act.put, List.setIfInBounds_toArray, List.set_cons_zero, List.set_cons_succ, i64_w, i32_w]
                  rfl
                refine pure_ (i := 10) (N := some 44) (v := ?_) (a' := ?_) #[true, true, true, true, true, true, true, true, true, true, true, false, false] rfl rfl (any_of HT_.out (by kernel_rfl)) (fun _ _ _ h => h) (Or.inl ⟨by rfl, ?_⟩) ?_ ?_
                rotate_left
                · intro w'
                  go_simp
                  with_reducible rfl
                rotate_left
                · simp only [Act.put, List.setIfInBounds_toArray, List.set_cons_zero, List.set_cons_succ, i64_w, i32_w]
                  rfl
                refine pure_ (i := 11) (N := some 3) (v := ?_) (a' := ?_) #[true, true, true, true, true, true, true, true, true, true, true, true, false] rfl rfl (any_of HT_.out (by kernel_rfl)) (fun _ _ _ h => h) (Or.inl ⟨by rfl, ?_⟩) ?_ ?_
                rotate_left
                · intro w'
                  go_simp
                  with_reducible rfl
                rotate_left
                · simp only [Act.put, List.setIfInBounds_toArray, List.set_cons_zero, List.set_cons_succ, i64_w, i32_w]
                  rfl
                refine pure_ (i := 12) (N := some 2) (v := ?_) (a' := ?_) #[true, true, true, true, true, true, true, true, true, true, true, true, true] rfl rfl (any_of HT_.out (by kernel_rfl)) (fun _ _ _ h => h) (Or.inl ⟨by rfl, ?_⟩) ?_ ?_
                rotate_left
                · intro w'
                  go_simp
                  with_reducible rfl
                rotate_left
                · simp only [Act.put, List.setIfInBounds_toArray, List.set_cons_zero, List.set_cons_succ, i64_w, i32_w]
                  rfl
                refine done_ (done_of HT_.out (by kernel_rfl)) ?_
                obtain ⟨Ao48, co48, eo48⟩ := Kd.R_slice HO128.out
                subst eo48
                try go_wp2
                go_ret
                exact ⟨by first | rfl | (simp [errW_none, errW_some] <;> rfl) | (simp [*, errW_none, errW_some] <;> rfl), by repeat (first | (with_reducible first | exact HB.out | apply below_alloc | apply pw_below_drewN | apply below_drew1) | exact HB.out)⟩
            · rw [if_neg c22] at H
              have c22b0 : (t126 == 0) = false := beq_eq_false_iff_ne.mpr c22
              have c22b1 : (t126 != 0) = true := bne_iff_ne.mpr c22
              obtain rfl := Option.some.inj H
              try go_wp2
              have n0_ := Aside0.mk (Kd.N_drew HO_1.out)
              have n1_ := Aside0.mk (below_drew1 HB.out)
              clear HO_1
              clear HB
              have HO_1 := n0_
              have HB := n1_
              clear n0_ n1_
              obtain ⟨Ao50, co50, eo50⟩ := Kd.N_slice HO_1.out
              (first | subst eo50 | (injection eo50 with f1_ f2_ f3_; have f4_ := f1_.symm; have f5_ := f3_.symm; clear f1_ f2_ f3_; subst f4_; subst f5_))
              have p120 : 0 ≤ (2 : Int) := (by omega)
              have q120 : 2 < (t113.length : Int) := of_decide_eq_true (by first | (with_reducible assumption) | assumption)
              obtain ⟨ad120, A120_1, c120_1, e120, hx120_0, hx120_1, hl120_1, hi120_1⟩ := at_T44 (Kd.N_reads' HO_1.out).2.2 2 p120 q120
              cases e120
              obtain ⟨ce120, hce120, hMe120, hcc120⟩ := Kd.N_get HO_1.out z44 2 p120 (by first | exact q120 | exact of_decide_eq_true (by first | (with_reducible assumption) | assumption) | (have e_ := (Kd.N_reads' HO_1.out).1; omega))
              obtain ⟨ua120_1, uc120_1, rfl, ul120_1, ge120_1⟩ := k44_openF hMe120
              have hv120_1 := hcc120 1 _ rfl
              rw [add_field _ _ 1 (by omega)] at hv120_1
              replace hv120_1 := Option.some.inj (hv120_1.symm.trans hx120_1)
              injection hv120_1 with hva_ hvn_ hvc_
              rw [hva_] at ge120_1
              rw [hvc_] at ul120_1
              have HL120_1 := Aside0.mk (show Kd.V (Kd.int .u8) 5 _ w.heap.size _ _ ((rd_T44 t113 2).f1) from Kd.V_mk ul120_1 ge120_1)
              clear hva_ hvn_ hvc_ ge120_1 ul120_1
              clear hcc120 hce120
              (try simp only [show (2 : Int).toNat = 2 from rfl, Nat.reduceMul, Nat.reduceEqDiff, Go.Addr.add, ↓reduceIte] at hx120_0)
              (try simp only [show (2 : Int).toNat = 2 from rfl, Nat.reduceMul, Nat.reduceEqDiff, Go.Addr.add, ↓reduceIte] at hx120_1)
              have qi120 : (2 < t113.length) = True := eq_true (by omega)
              (try rw [show ((2 : Int)).toNat = 2 from rfl] at hx120_0)
              (try rw [show 2 * 2 = 4 from rfl] at hx120_0)
              (try rw [show ((2 : Int)).toNat = 2 from rfl] at hx120_1)
              (try rw [show 2 * 2 = 4 from rfl] at hx120_1)
              have HR120_1 := Aside0.mk hi120_1
              have HC120_1 := Aside0.mk hl120_1
              clear hi120_1 hl120_1
              replace p120 := eq_true p120
              replace q120 := eq_true q120
              have p121 : 0 ≤ (0 : Int) := (by omega)
              have q121 : 0 < (t113.length : Int) := of_decide_eq_true (by first | (with_reducible assumption) | assumption)
              obtain ⟨ad121, A121_1, c121_1, e121, hx121_0, hx121_1, hl121_1, hi121_1⟩ := at_T44 (Kd.N_reads' HO_1.out).2.2 0 p121 q121
              obtain rfl : ad120 = ad121 := (by injection e121)
              obtain ⟨ce121, hce121, hMe121, hcc121⟩ := Kd.N_get HO_1.out z44 0 p121 (by first | exact q121 | exact of_decide_eq_true (by first | (with_reducible assumption) | assumption) | (have e_ := (Kd.N_reads' HO_1.out).1; omega))
              obtain ⟨ua121_1, uc121_1, rfl, ul121_1, ge121_1⟩ := k44_openF hMe121
              have hv121_1 := hcc121 1 _ rfl
              rw [add_field _ _ 1 (by omega)] at hv121_1
              replace hv121_1 := Option.some.inj (hv121_1.symm.trans hx121_1)
              injection hv121_1 with hva_ hvn_ hvc_
              rw [hva_] at ge121_1
              rw [hvc_] at ul121_1
              have HL121_1 := Aside0.mk (show Kd.V (Kd.int .u8) 5 _ w.heap.size _ _ ((rd_T44 t113 0).f1) from Kd.V_mk ul121_1 ge121_1)
              clear hva_ hvn_ hvc_ ge121_1 ul121_1
              clear hcc121 hce121
              have qi121 : (0 < t113.length) = True := eq_true (by omega)
              (try rw [show ((0 : Int)).toNat = 0 from rfl] at hx121_0)
              (try rw [show 0 * 2 = 0 from rfl] at hx121_0)
              (try rw [Addr.add_zero'] at hx121_0)
              (try rw [show ((0 : Int)).toNat = 0 from rfl] at hx121_1)
              (try rw [show 0 * 2 = 0 from rfl] at hx121_1)
              (try rw [Addr.add_zero'] at hx121_1)
              have HR121_1 := Aside0.mk hi121_1
              have HC121_1 := Aside0.mk hl121_1
              clear hi121_1 hl121_1
              replace p121 := eq_true p121
              replace q121 := eq_true q121
              refine start_ (n := 13) (S := fun w' => w'.cell? ⟨ad120.block, ad120.off + 4, none⟩ = some (.int .u8 ((rd_T44 t113 2).f0)) ∧ w'.cell? ⟨ad120.block, ad120.off + 4 + 1, none⟩ = some (.slice A120_1 ((rd_T44 t113 2).f1).length c120_1) ∧ w'.cell? ad120 = some (.int .u8 ((rd_T44 t113 0).f0)) ∧ w'.cell? ⟨ad120.block, ad120.off + 1, none⟩ = some (.slice A121_1 ((rd_T44 t113 0).f1).length c121_1)) (ds := []) #[false, false, false, false, false, false, false, false, false, false, false, false, false] (by kernel_rfl) rfl rfl ⟨hx120_0, hx120_1, hx121_0, hx121_1⟩ (fun hHeld => ?_); refine with_tabW ciboriumlaw04_works.tab4 ciboriumlaw04_works.bits4 (fun HT_ HW_ => ?_)
              generalize wc.drew = w49 at HO_1 HB HL120_1 HL121_1 HR120_1 HR121_1 hx120_0 hx120_1 hx121_0 hx121_1 hHeld ⊢
              refine pure_ (i := 0) (N := some 35) (v := ?_) (a' := ?_) #[true, false, false, false, false, false, false, false, false, false, false, false, false] rfl rfl (any_of HT_.out (by kernel_rfl)) (fun _ _ _ h => h) (Or.inl ⟨by rfl, ?_⟩) ?_ ?_
              rotate_left
              · intro w'
                go_simp
                with_reducible rfl
              rotate_left
              · simp only [Act.put, List.setIfInBounds_toArray, List.set_cons_zero, List.set_cons_succ, i64_w, i32_w]
                rfl
              refine pure_ (i := 1) (N := some 36) (v := ?_) (a' := ?_) #[true, true, false, false, false, false, false, false, false, false, false, false, false] rfl rfl (any_of HT_.out (by kernel_rfl)) (fun _ _ _ h => h) (Or.inl ⟨by rfl, ?_⟩) ?_ ?_
              rotate_left
              · intro w'
                go_simp
                with_reducible rfl
              rotate_left
              · simp only [Act.put, List.setIfInBounds_toArray, List.set_cons_zero, List.set_cons_succ, i64_w, i32_w]
                rfl
              refine pure_ (i := 3) (N := some 38) (v := ?_) (a' := ?_) #[true, true, false, true, false, false, false, false, false, false, false, false, false] rfl rfl (any_of HT_.out (by kernel_rfl)) (fun _ _ _ h => h) (Or.inl ⟨by rfl, ?_⟩) ?_ ?_
              rotate_left
              · intro w'
                go_simp
                with_reducible rfl
              rotate_left
              · simp only [Act.put, List.setIfInBounds_toArray, List.set_cons_zero, List.set_cons_succ, i64_w, i32_w]
                rfl
              refine pure_ (i := 4) (N := some 39) (v := ?_) (a' := ?_) #[true, true, false, true, true, false, false, false, false, false, false, false, false] rfl rfl (any_of HT_.out (by kernel_rfl)) (fun _ _ _ h => h) (Or.inl ⟨by rfl, ?_⟩) ?_ ?_
              rotate_left
              · intro w'
                go_simp
                with_reducible rfl
              rotate_left
              · simp only [Act.put, List.setIfInBounds_toArray, List.set_cons_zero, List.set_cons_succ, i64_w, i32_w]
                rfl
              refine take_ (i := 2) (N := some 37) (v := ?_) (a' := ?_) #[true, true, true, true, true, false, false, false, false, false, false, false, false] rfl rfl (take_ofW HT_.out HW_.out (by kernel_rfl)) (fun _ _ _ h => h) (Or.inl ⟨by rfl, ?_⟩) hHeld ?_ ?_
              rotate_left
              · rintro w' ⟨s0, s1, s2, s3⟩
                go_simp
                with_reducible rfl
              rotate_left
              · simp only [Act.put, List.setIfInBounds_toArray, List.set_cons_zero, List.set_cons_succ, i64_w, i32_w]
                rfl
              refine take_ (i := 5) (N := some 40) (v := ?_) (a' := ?_) #[true, true, true, true, true, true, false, false, false, false, false, false, false] rfl rfl (take_ofW HT_.out HW_.out (by kernel_rfl)) (fun _ _ _ h => h) (Or.inl ⟨by rfl, ?_⟩) hHeld ?_ ?_
              rotate_left
              · rintro w' ⟨s0, s1, s2, s3⟩
                go_simp
                with_reducible rfl
              rotate_left
              · simp only [Act.put, List.setIfInBounds_toArray, List.set_cons_zero, List.set_cons_succ, i64_w, i32_w]
                rfl
              refine one_ (i := 6) (N := some 41) #[true, true, true, true, true, true, true, false, false, false, false, false, false] rfl rfl (one_of HT_.out (by kernel_rfl)) (by decide) (fun K hK => ?_)
              refine Kd.N_lit_step k44 _ 44 ?hg (N' := 41) ?hd (xs := ([(⟨(rd_T44 t113 2).f0, (rd_T44 t113 2).f1⟩ : S44), (⟨(rd_T44 t113 0).f0, (rd_T44 t113 0).f1⟩ : S44)] : List (S44))) (inner := [.int .u8 ((rd_T44 t113 2).f0), .slice A120_1 ((rd_T44 t113 2).f1).length c120_1, .int .u8 ((rd_T44 t113 0).f0), .slice A121_1 ((rd_T44 t113 0).f1).length c121_1]) (ok := (fun k_ => some k_ ≠ (.slice (some ad120) t113.length co50 : Value).ownBlock)) (okp := (fun k_ => some k_ ≠ (.slice (some ad120) t113.length co50 : Value).ownBlock)) ?hr ?hp (fun _ hk => hk) ((show ∀ k_, w49.heap.size ≤ k_ → (fun k_ => some k_ ≠ (.slice (some ad120) t113.length co50 : Value).ownBlock) k_ from fun k_ hk => Kd.fresh' (Kd.N_lt (by (with_reducible repeat (first | apply Kd.N_alloc | apply Kd.N_drewN | apply Kd.N_drew)); exact HO_1.out)) k_ hk) _ (Nat.le_refl _)) (Below.refl _ _) (Nat.le_refl _) (by simp) ?_; (case hd => rfl); (case hg => rfl); (case hr => first | (go_simp; done) | (go_simp; rfl)); (case hp => exact (Reps.c2 (show Kd.FK k44 _ _ (⟨(rd_T44 t113 2).f0, (rd_T44 t113 2).f1⟩ : S44) [.int .u8 ((rd_T44 t113 2).f0), .slice A120_1 ((rd_T44 t113 2).f1).length c120_1] from (k44_mkF _ _ (⟨(rd_T44 t113 2).f0, (rd_T44 t113 2).f1⟩ : S44) (Kd.V_reads' (Kd.V_mono (ok' := (fun k_ => some k_ ≠ (.slice (some ad120) t113.length co50 : Value).ownBlock)) (HL120_1.out) (fun k_ hk => hk.2))).2.1 (Kd.V_F (Kd.V_mono (ok' := (fun k_ => some k_ ≠ (.slice (some ad120) t113.length co50 : Value).ownBlock)) (HL120_1.out) (fun k_ hk => hk.2))))) (Reps.c2 (show Kd.FK k44 _ _ (⟨(rd_T44 t113 0).f0, (rd_T44 t113 0).f1⟩ : S44) [.int .u8 ((rd_T44 t113 0).f0), .slice A121_1 ((rd_T44 t113 0).f1).length c121_1] from (k44_mkF _ _ (⟨(rd_T44 t113 0).f0, (rd_T44 t113 0).f1⟩ : S44) (Kd.V_reads' (Kd.V_mono (ok' := (fun k_ => some k_ ≠ (.slice (some ad120) t113.length co50 : Value).ownBlock)) (HL121_1.out) (fun k_ hk => hk.2))).2.1 (Kd.V_F (Kd.V_mono (ok' := (fun k_ => some k_ ≠ (.slice (some ad120) t113.length co50 : Value).ownBlock)) (HL121_1.out) (fun k_ hk => hk.2))))) (Reps.none _ _))))
              intro v123 w51 ho52 hb hg_ hnew_
              have HS0_ := (hb.cell (World.block_lt_of_cell? _ _ (hHeld.1))).trans (hHeld.1)
              have HS1_ := (hb.cell (World.block_lt_of_cell? _ _ (hHeld.2.1))).trans (hHeld.2.1)
              have HS2_ := (hb.cell (World.block_lt_of_cell? _ _ (hHeld.2.2.1))).trans (hHeld.2.2.1)
              have HS3_ := (hb.cell (World.block_lt_of_cell? _ _ (hHeld.2.2.2))).trans (hHeld.2.2.2)
              clear hg_ hnew_
              (first | rw [← Ny122.out] at ho52 | (simp only [Int.reduceToNat] at ho52; rw [← Ny122.out] at ho52))
              have n0_ := Aside0.mk (Kd.N_elder' (by (with_reducible repeat (first | apply Kd.N_alloc | apply Kd.N_drewN | apply Kd.N_drew)); exact HO_1.out) (Kd.N_base ho52) hb)
              have n1_ := Aside0.mk (Kd.V_elder' (by (with_reducible repeat (first | apply Kd.V_alloc | apply Kd.V_drewN | apply Kd.V_drew)); exact HL120_1.out) (Kd.N_base ho52) hb)
              have n2_ := Aside0.mk (Kd.V_elder' (by (with_reducible repeat (first | apply Kd.V_alloc | apply Kd.V_drewN | apply Kd.V_drew)); exact HL121_1.out) (Kd.N_base ho52) hb)
              have n3_ := Aside0.mk (Kd.N_lower ho52 (below_size (by repeat (first | (with_reducible first | exact HB.out | apply below_alloc | apply pw_below_drewN | apply below_drew1) | exact HB.out))))
              have n4_ := Aside0.mk (Kd.C_below (by repeat (first | (with_reducible exact HR120_1.out) | (with_reducible refine Kd.C_alloc ?_ _) | (with_reducible refine Kd.C_drewN ?_ _) | (with_reducible refine Kd.C_drew ?_) | exact HR120_1.out)) hb)
              have n5_ := Aside0.mk (Kd.C_below (by repeat (first | (with_reducible exact HR121_1.out) | (with_reducible refine Kd.C_alloc ?_ _) | (with_reducible refine Kd.C_drewN ?_ _) | (with_reducible refine Kd.C_drew ?_) | exact HR121_1.out)) hb)
              have n6_ := Aside0.mk (below_step (by repeat (first | (with_reducible first | exact HB.out | apply below_alloc | apply pw_below_drewN | apply below_drew1) | exact HB.out)) hb)
              clear HO_1
              clear HL120_1
              clear HL121_1
              clear HR120_1
              clear HR121_1
              clear HB
              have HO_1 := n0_
              have HL120_1 := n1_
              have HL121_1 := n2_
              have HO124 := n3_
              have HR120_1 := n4_
              have HR121_1 := n5_
              have HB := n6_
              clear n0_ n1_ n2_ n3_ n4_ n5_ n6_
              clear hb ho52
              obtain ⟨Ao53, co53, eo53⟩ := Kd.N_slice HO124.out
              (first | subst eo53 | (injection eo53 with f1_ f2_ f3_; have f4_ := f1_.symm; have f5_ := f3_.symm; clear f1_ f2_ f3_; subst f4_; subst f5_))
              refine hK.out _ _ ⟨HS0_, HS1_, HS2_, HS3_⟩ (fun hHeld => ?_)
              clear hK K
              refine norm_ (a' := ?_) ?_ ?_
              rotate_left
              · show Act.put _ (some 41) _ = _
                simp only [Act.put, List.setIfInBounds_toArray, List.set_cons_zero, List.set_cons_succ, i64_w, i32_w]
                rfl
              refine one_ (i := 7) (N := some 42) #[true, true, true, true, true, true, true, true, false, false, false, false, false] rfl rfl (one_of HT_.out (by kernel_rfl)) (by decide) (fun K hK => ?_)
              refine goes_ Try.func24 (by kernel_rfl) rfl #[.slice Ao53 y122.length co53] (by rfl) rfl rfl (by (try simp only [List.map_toArray, List.map_cons, List.map_nil]); first | done | rfl | (simp only [List.length_drop, List.length_take]; rfl)) ?_
              with_reducible refine (share_Combine.calls _ _ y122 t125 t126 _ ?side1 ?side2 A21.out).mono ?_
              (case side1 => repeat (first | exact (Kd.N_reads' HO124.out).2.2 | (with_reducible refine Kd.C_alloc ?_ _) | (with_reducible refine Kd.C_drewN ?_ _) | (with_reducible refine Kd.C_drew ?_)))
              (case side2 => exact (Kd.N_reads' HO124.out).2.1)
              rintro e w54 ⟨v127, rfl, ho0, hb⟩
              have HS0_ := (hb.cell (World.block_lt_of_cell? _ _ (hHeld.1))).trans (hHeld.1)
              have HS1_ := (hb.cell (World.block_lt_of_cell? _ _ (hHeld.2.1))).trans (hHeld.2.1)
              have HS2_ := (hb.cell (World.block_lt_of_cell? _ _ (hHeld.2.2.1))).trans (hHeld.2.2.1)
              have HS3_ := (hb.cell (World.block_lt_of_cell? _ _ (hHeld.2.2.2))).trans (hHeld.2.2.2)
              refine ⟨_, rfl, ?_⟩
              have n0_ := Aside0.mk (Kd.N_elder' (by (with_reducible repeat (first | apply Kd.N_alloc | apply Kd.N_drewN | apply Kd.N_drew)); exact HO_1.out) (Kd.R_base ho0) hb)
              have n1_ := Aside0.mk (Kd.V_elder' (by (with_reducible repeat (first | apply Kd.V_alloc | apply Kd.V_drewN | apply Kd.V_drew)); exact HL120_1.out) (Kd.R_base ho0) hb)
              have n2_ := Aside0.mk (Kd.V_elder' (by (with_reducible repeat (first | apply Kd.V_alloc | apply Kd.V_drewN | apply Kd.V_drew)); exact HL121_1.out) (Kd.R_base ho0) hb)
              have n3_ := Aside0.mk (Kd.N_elder' (by (with_reducible repeat (first | apply Kd.N_alloc | apply Kd.N_drewN | apply Kd.N_drew)); exact HO124.out) (Kd.R_base ho0) hb)
              have n4_ := Aside0.mk (Kd.R_lower ho0 (below_size (by repeat (first | (with_reducible first | exact HB.out | apply below_alloc | apply pw_below_drewN | apply below_drew1) | exact HB.out))))
              have n5_ := Aside0.mk (Kd.C_below (by repeat (first | (with_reducible exact HR120_1.out) | (with_reducible refine Kd.C_alloc ?_ _) | (with_reducible refine Kd.C_drewN ?_ _) | (with_reducible refine Kd.C_drew ?_) | exact HR120_1.out)) hb)
              have n6_ := Aside0.mk (Kd.C_below (by repeat (first | (with_reducible exact HR121_1.out) | (with_reducible refine Kd.C_alloc ?_ _) | (with_reducible refine Kd.C_drewN ?_ _) | (with_reducible refine Kd.C_drew ?_) | exact HR121_1.out)) hb)
              have n7_ := Aside0.mk (below_step (by repeat (first | (with_reducible first | exact HB.out | apply below_alloc | apply pw_below_drewN | apply below_drew1) | exact HB.out)) hb)
              clear HO_1
              clear HL120_1
              clear HL121_1
              clear HO124
              clear HR120_1
              clear HR121_1
              clear HB
              have HO_1 := n0_
              have HL120_1 := n1_
              have HL121_1 := n2_
              have HO124 := n3_
              have HO128 := n4_
              have HR120_1 := n5_
              have HR121_1 := n6_
              have HB := n7_
              clear n0_ n1_ n2_ n3_ n4_ n5_ n6_ n7_
              (try clear hb)
              (try clear hb2)
              (try clear hk)
              (try clear hi)
              (try clear ho0)
              refine hK.out _ _ ⟨HS0_, HS1_, HS2_, HS3_⟩ (fun hHeld => ?_)
              clear hK K
              refine norm_ (a' := ?_) ?_ ?_
              rotate_left
              · show Act.put _ (some 42) _ = _
                simp only [Act.put, List.setIfInBounds_toArray, List.set_cons_zero, List.set_cons_succ, i64_w, i32_w]
                rfl
              refine pure_ (i := 8) (N := some 34) (v := ?_) (a' := ?_) #[true, true, true, true, true, true, true, true, true, false, false, false, false] rfl rfl (any_of HT_.out (by kernel_rfl)) (fun _ _ _ h => h) (Or.inl ⟨by rfl, ?_⟩) ?_ ?_
              rotate_left
              · intro w'
                go_simp
                with_reducible rfl
              rotate_left
              · simp only [Act.put, List.setIfInBounds_toArray, List.set_cons_zero, List.set_cons_succ, i64_w, i32_w]
                rfl
              refine pure_ (i := 9) (N := some 43) (v := ?_) (a' := ?_) #[true, true, true, true, true, true, true, true, true, true, false, false, false] rfl rfl (any_of HT_.out (by kernel_rfl)) (fun _ _ _ h => h) (Or.inl ⟨by rfl, ?_⟩) ?_ ?_
              rotate_left
              · intro w'
                go_simp
                with_reducible rfl
              rotate_left
              · simp only [Act.put, List.setIfInBounds_toArray, List.set_cons_zero, List.set_cons_succ, i64_w, i32_w]
                rfl
              refine pure_ (i := 10) (N := some 44) (v := ?_) (a' := ?_) #[true, true, true, true, true, true, true, true, true, true, true, false, false] rfl rfl (any_of HT_.out (by kernel_rfl)) (fun _ _ _ h => h) (Or.inl ⟨by rfl, ?_⟩) ?_ ?_
              rotate_left
              · intro w'
                go_simp
                with_reducible rfl
              rotate_left
              · simp only [Act.put, List.setIfInBounds_toArray, List.set_cons_zero, List.set_cons_succ, i64_w, i32_w]
                rfl
              refine pure_ (i := 11) (N := some 3) (v := ?_) (a' := ?_) #[true, true, true, true, true, true, true, true, true, true, true, true, false] rfl rfl (any_of HT_.out (by kernel_rfl)) (fun _ _ _ h => h) (Or.inl ⟨by rfl, ?_⟩) ?_ ?_
              rotate_left
              · intro w'
                go_simp
                with_reducible rfl
              rotate_left
              · simp only [Act.put, List.setIfInBounds_toArray, List.set_cons_zero, List.set_cons_succ, i64_w, i32_w]
                rfl
              refine pure_ (i := 12) (N := some 2) (v := ?_) (a' := ?_) #[true, true, true, true, true, true, true, true, true, true, true, true, true] rfl rfl (any_of HT_.out (by kernel_rfl)) (fun _ _ _ h => h) (Or.inl ⟨by rfl, ?_⟩) ?_ ?_
              rotate_left
              · intro w'
                go_simp
                with_reducible rfl
              rotate_left
              · simp only [Act.put, List.setIfInBounds_toArray, List.set_cons_zero, List.set_cons_succ, i64_w, i32_w]
                rfl
              refine done_ (done_of HT_.out (by kernel_rfl)) ?_
              try go_wp2
              go_ret
              exact ⟨by first | rfl | (simp [errW_none, errW_some] <;> rfl) | (simp [*, errW_none, errW_some] <;> rfl), by repeat (first | (with_reducible first | exact HB.out | apply below_alloc | apply pw_below_drewN | apply below_drew1) | exact HB.out)⟩
          · rw [if_neg c20] at H
            exact absurd H (by simp)
        · rw [if_neg c19] at H
          exact absurd H (by simp)

end Go.Proofs.Ytglnepokollijaa.PT
