/- What is said here: what the Go functions named below answer, each as a plain function with the proof that its call comes to that answer; written by a program out of the translation. No condition. -/
import Derived.Test.YtilhpgjohpekkaaDoorPOx0
import Derived.Test.YtilhpgjohpekkaaDoorPOx1
namespace Go.Proofs.YtilhpgjohpekkaaDoor.PO
open Go.RowKit Go.Proofs.YtilhpgjohpekkaaDoorW.PrintWords Go.Proofs.YtilhpgjohpekkaaDoorW.PrintLast Go.Proofs.YtilhpgjohpekkaaDoorW.PrintMore
attribute [local go_sem] max2_int min2_int max_two min_two max_three min_three max_four min_four   -- for this text's walks alone
set_option linter.unusedVariables false
set_option linter.unusedSimpArgs false

/-! ### ciboriumref15_More: function 27 -/
def ciboriumref15_More.j0 : Nat → ByteArray → ByteArray → Bool → Bool → Bool → Option (Int)
  | 0, _, _, _, _, _ => none
  | k + 1, x0, x1, x5, x6, x20 => if x20 = true then ((ciboriumref15_number.f x5).bind fun t103 => ((ciboriumref15_number.f x6).bind fun t104 => ((ciboriumref15_than.f t103 t104).bind fun t105 => (some t105)))) else ((ciboriumref15_first.f k x0).bind fun t106 => ((ciboriumref15_first.f k x1).bind fun t107 => (if t106 = t107 then (if 0 ≤ (wrap64 ((x0.size : Int) - 1)) then (if (wrap64 ((x0.size : Int) - 1)) < (x0.size : Int) then (if 0 ≤ (wrap64 ((x1.size : Int) - 1)) then (if (wrap64 ((x1.size : Int) - 1)) < (x1.size : Int) then (if (((bt x0 (wrap64 ((x0.size : Int) - 1))) == 42) != ((bt x1 (wrap64 ((x1.size : Int) - 1))) == 42)) = true then ((ciboriumref15_number.f ((bt x1 (wrap64 ((x1.size : Int) - 1))) == 42)).bind fun t111 => ((ciboriumref15_number.f ((bt x0 (wrap64 ((x0.size : Int) - 1))) == 42)).bind fun t112 => ((ciboriumref15_than.f t111 t112).bind fun t113 => (some t113)))) else ((ciboriumref15_pluses.f k x0).bind fun t114 => ((ciboriumref15_pluses.f k x1).bind fun t115 => (if t114 = t115 then (if (x0.size : Int) = (x1.size : Int) then ((ciboriumref15_number.f (Op.bytesLess x1.toList x0.toList)).bind fun t119 => ((ciboriumref15_number.f (Op.bytesLess x0.toList x1.toList)).bind fun t120 => ((ciboriumref15_than.f t119 t120).bind fun t121 => (some t121)))) else ((ciboriumref15_than.f (x0.size : Int) (x1.size : Int)).bind fun t122 => (some t122))) else ((ciboriumref15_pluses.f k x1).bind fun t116 => ((ciboriumref15_pluses.f k x0).bind fun t117 => ((ciboriumref15_than.f t116 t117).bind fun t118 => (some t118)))))))) else (none)) else (none)) else (none)) else (none)) else ((ciboriumref15_first.f k x0).bind fun t108 => ((ciboriumref15_first.f k x1).bind fun t109 => ((ciboriumref15_than.f t108 t109).bind fun t110 => (some t110)))))))
def ciboriumref15_More.f (k : Nat) (a0 : ByteArray) (a1 : ByteArray) : Option (Int) := (ciboriumref15_CheckPattern.f k a0).bind fun t101 => ((ciboriumref15_CheckPattern.f k a1).bind fun t102 => (if t101 = 0 then (ciboriumref15_More.j0 k a0 a1 (t101 == 0) (t102 == 0) (!(t102 == 0))) else (ciboriumref15_More.j0 k a0 a1 (t101 == 0) (t102 == 0) true)))
theorem ciboriumref15_More.mono_l : ∀ k, (∀ y0 y1 y2 y3 y4, LeO (ciboriumref15_More.j0 k y0 y1 y2 y3 y4) (ciboriumref15_More.j0 (k + 1) y0 y1 y2 y3 y4))
  | 0 => fun _ _ _ _ _ r h => by simp [ciboriumref15_More.j0] at h
  | k + 1 => by
    have ih0 := ciboriumref15_More.mono_l k
    · intro y0 y1 y2 y3 y4
      unfold ciboriumref15_More.j0
      repeat' first
      | (with_reducible exact ih0 _ _ _ _ _)
      | (with_reducible exact ciboriumref15_CheckPattern.mono _ _)
      | (with_reducible exact ciboriumref15_first.mono _ _)
      | (with_reducible exact ciboriumref15_pluses.mono _ _)
      | (with_reducible exact LeO.refl _)
      | (with_reducible exact LeO.none _)
      | (with_reducible refine LeO.ite ?_ ?_)
      | (with_reducible refine LeO.bind ?_ (fun _ => ?_))
      | exact ih0 _ _ _ _ _
      | exact ciboriumref15_CheckPattern.mono _ _
      | exact ciboriumref15_first.mono _ _
      | exact ciboriumref15_pluses.mono _ _
      | exact LeO.none _
      | refine LeO.ite ?_ ?_
      | refine LeO.bind ?_ (fun _ => ?_)
theorem ciboriumref15_More.mono : ∀ a0 a1 k, LeO (ciboriumref15_More.f k a0 a1) (ciboriumref15_More.f (k + 1) a0 a1) := by
  intro a0 a1 k
  have ih0 := ciboriumref15_More.mono_l k
  unfold ciboriumref15_More.f
  repeat' first
      | (with_reducible exact ih0 _ _ _ _ _)
      | (with_reducible exact ciboriumref15_CheckPattern.mono _ _)
      | (with_reducible exact ciboriumref15_first.mono _ _)
      | (with_reducible exact ciboriumref15_pluses.mono _ _)
      | (with_reducible exact LeO.refl _)
      | (with_reducible exact LeO.none _)
      | (with_reducible refine LeO.ite ?_ ?_)
      | (with_reducible refine LeO.bind ?_ (fun _ => ?_))
      | exact ih0 _ _ _ _ _
      | exact ciboriumref15_CheckPattern.mono _ _
      | exact ciboriumref15_first.mono _ _
      | exact ciboriumref15_pluses.mono _ _
      | exact LeO.none _
      | refine LeO.ite ?_ ?_
      | refine LeO.bind ?_ (fun _ => ?_)
set_option maxHeartbeats 8000000 in
set_option maxRecDepth 100000 in
theorem ciboriumref15_More.calls (k : Nat) (a0 : ByteArray) (a1 : ByteArray) (r : Int) (w : World) (h : ciboriumref15_More.f k a0 a1 = some r) :
    Calls Tryd.prog 27 #[.string a0, .string a1] w fun e w' => e = .returned (.int .i64 r) ∧ Below w.heap.size w w' := by
  have HB := Aside0.mk (Below.refl w.heap.size w)
  have H : ((ciboriumref15_CheckPattern.f k a0).bind fun t101 => ((ciboriumref15_CheckPattern.f k a1).bind fun t102 => (if t101 = 0 then (ciboriumref15_More.j0 k a0 a1 (t101 == 0) (t102 == 0) (!(t102 == 0))) else (ciboriumref15_More.j0 k a0 a1 (t101 == 0) (t102 == 0) true)))) = some r := h
  clear h
  replace H := Option.bind_eq_some_iff.mp H
  obtain ⟨t101, A30, H⟩ := H
  replace H : ((ciboriumref15_CheckPattern.f k a1).bind fun t102 => (if t101 = 0 then (ciboriumref15_More.j0 k a0 a1 (t101 == 0) (t102 == 0) (!(t102 == 0))) else (ciboriumref15_More.j0 k a0 a1 (t101 == 0) (t102 == 0) true))) = some r := H
  have A3 := Aside0.mk A30
  clear A30
  replace H := Option.bind_eq_some_iff.mp H
  obtain ⟨t102, A40, H⟩ := H
  replace H : (if t101 = 0 then (ciboriumref15_More.j0 k a0 a1 (t101 == 0) (t102 == 0) (!(t102 == 0))) else (ciboriumref15_More.j0 k a0 a1 (t101 == 0) (t102 == 0) true)) = some r := H
  have A4 := Aside0.mk A40
  clear A40
  have HC5 := Aside0.mk H
  clear H
  go_enter Tryd.func27, Tryd.ntmps27
  go_upto_region 3 with (first | ((with_reducible refine gate_callee (f := 15) rfl ?_); refine goesL_ (some 10) rfl rfl Tryd.func15 (by kernel_rfl) rfl #[.string a0] rfl (by (try simp only [List.map_toArray, List.map_cons, List.map_nil]); first | done | rfl | (simp only [List.length_drop, List.length_take]; rfl)) ?_; (with_reducible refine (ciboriumref15_CheckPattern.calls k a0 t101 _ A3.out).mono ?_); rintro e w6 ⟨rfl, hb⟩; refine ⟨_, rfl, ?_⟩; have n0_ := Aside0.mk (below_step (by repeat (first | (with_reducible first | exact HB.out | apply below_alloc | apply pw_below_drewN | apply below_drew1) | exact HB.out)) hb); clear HB; have HB := n0_; clear n0_; (try clear hb); (try clear hb2); (try clear hk); (try clear hi)) | ((with_reducible refine gate_callee (f := 15) rfl ?_); refine goesL_ (some 13) rfl rfl Tryd.func15 (by kernel_rfl) rfl #[.string a1] rfl (by (try simp only [List.map_toArray, List.map_cons, List.map_nil]); first | done | rfl | (simp only [List.length_drop, List.length_take]; rfl)) ?_; (with_reducible refine (ciboriumref15_CheckPattern.calls k a1 t102 _ A4.out).mono ?_); rintro e w7 ⟨rfl, hb⟩; refine ⟨_, rfl, ?_⟩; have n0_ := Aside0.mk (below_step (by repeat (first | (with_reducible first | exact HB.out | apply below_alloc | apply pw_below_drewN | apply below_drew1) | exact HB.out)) hb); clear HB; have HB := n0_; clear n0_; (try clear hb); (try clear hb2); (try clear hk); (try clear hi)))
  (try simp only [Act.put, List.setIfInBounds_toArray, List.set_cons_zero, List.set_cons_succ])
  go_cut [20] (fun v20 wc => ∃ (kq : Nat) (x20_4 : Bool), v20 = .bool x20_4 ∧ Aside0 (ciboriumref15_More.j0 kq a0 a1 (t101 == 0) (t102 == 0) x20_4 = some r) ∧ Aside0 (kq ≤ k) ∧ Aside0 (Below w.heap.size w wc))
  case first =>
    have H := HC5.out
    clear HC5
    by_cases c8 : t101 = 0
    · rw [if_pos c8] at H
      have c8b0 : (t101 == 0) = true := beq_iff_eq.mpr c8
      have c8b1 : (t101 != 0) = false := bne_eq_false_iff_eq.mpr c8
      clear c8
      (first | rw [c8b0] | (simp only [i64_w, i32_w]; rw [c8b0]) | skip)
      have H' := Aside0.mk H
      clear H
      go_wp2
      (refine Met.intro ?_
       go_step
       (repeat apply Exists.intro)
       refine ⟨?rel, by first | rfl | (simp only [c8b0]; rfl)⟩)
      case rel => exact ⟨_, (!(t102 == 0)), (by first | rfl | (simp; done) | (simp [*]; done)), H', ⟨by first | omega | exact Nat.le_refl _⟩, ⟨by repeat (first | (with_reducible first | exact HB.out | apply below_alloc | apply pw_below_drewN | apply below_drew1) | exact HB.out)⟩⟩
    · rw [if_neg c8] at H
      have c8b0 : (t101 == 0) = false := beq_eq_false_iff_ne.mpr c8
      have c8b1 : (t101 != 0) = true := bne_iff_ne.mpr c8
      (first | rw [c8b0] | (simp only [i64_w, i32_w]; rw [c8b0]) | skip)
      have H' := Aside0.mk H
      clear H
      go_wp2
      (refine Met.intro ?_
       go_step
       (repeat apply Exists.intro)
       refine ⟨?rel, by first | rfl | (simp only [c8b0]; rfl)⟩)
      case rel => exact ⟨_, (true), (by first | rfl | (simp; done) | (simp [*]; done)), H', ⟨by first | omega | exact Nat.le_refl _⟩, ⟨by repeat (first | (with_reducible first | exact HB.out | apply below_alloc | apply pw_below_drewN | apply below_drew1) | exact HB.out)⟩⟩
  case rest =>
    clear HC5
    try clear c1
    try clear c2
    try clear p2
    try clear c8
    try clear c8b0
    try clear c8b1
    obtain ⟨kq, x20_4, rfl, HA, HJ4, HB⟩ := hcut
    cases kq with
    | zero => exact absurd HA.out (by simp [ciboriumref15_More.j0])
    | succ kj4 =>
      have H := HA.out
      clear HA
      simp only [ciboriumref15_More.j0] at H
      by_cases c9 : x20_4 = true
      · subst c9
        have H1 : ((ciboriumref15_number.f (t101 == 0)).bind fun t103 => ((ciboriumref15_number.f (t102 == 0)).bind fun t104 => ((ciboriumref15_than.f t103 t104).bind fun t105 => (some t105)))) = some r := by rw [if_pos rfl] at H; exact H
        clear H
        have H := H1
        clear H1
        replace H := Option.bind_eq_some_iff.mp H
        obtain ⟨t103, A100, H⟩ := H
        replace H : ((ciboriumref15_number.f (t102 == 0)).bind fun t104 => ((ciboriumref15_than.f t103 t104).bind fun t105 => (some t105))) = some r := H
        have A10 := Aside0.mk A100
        clear A100
        replace H := Option.bind_eq_some_iff.mp H
        obtain ⟨t104, A110, H⟩ := H
        replace H : ((ciboriumref15_than.f t103 t104).bind fun t105 => (some t105)) = some r := H
        have A11 := Aside0.mk A110
        clear A110
        replace H := Option.bind_eq_some_iff.mp H
        obtain ⟨t105, A120, H⟩ := H
        replace H : (some t105) = some r := H
        have A12 := Aside0.mk A120
        clear A120
        obtain rfl := Option.some.inj H
        go_wp2_with (first | ((with_reducible refine gate_callee (f := 44) rfl ?_); refine goesL_ (some 22) rfl rfl Tryd.func44 (by kernel_rfl) rfl #[.bool (t101 == 0)] rfl (by (try simp only [List.map_toArray, List.map_cons, List.map_nil]); first | done | rfl | (simp only [List.length_drop, List.length_take]; rfl)) ?_; (with_reducible refine (ciboriumref15_number.calls (t101 == 0) t103 _ A10.out).mono ?_); rintro e w' ⟨rfl, ⟨nd, rfl⟩⟩; refine ⟨_, rfl, ?_⟩) | ((with_reducible refine gate_callee (f := 44) rfl ?_); refine goesL_ (some 24) rfl rfl Tryd.func44 (by kernel_rfl) rfl #[.bool (t102 == 0)] rfl (by (try simp only [List.map_toArray, List.map_cons, List.map_nil]); first | done | rfl | (simp only [List.length_drop, List.length_take]; rfl)) ?_; (with_reducible refine (ciboriumref15_number.calls (t102 == 0) t104 _ A11.out).mono ?_); rintro e w' ⟨rfl, ⟨nd, rfl⟩⟩; refine ⟨_, rfl, ?_⟩) | ((with_reducible refine gate_callee (f := 43) rfl ?_); refine goesL_ (some 25) rfl rfl Tryd.func43 (by kernel_rfl) rfl #[.int .i64 t103, .int .i64 t104] rfl (by (try simp only [List.map_toArray, List.map_cons, List.map_nil]); first | done | rfl | (simp only [List.length_drop, List.length_take]; rfl)) ?_; (with_reducible refine (ciboriumref15_than.calls t103 t104 t105 _ A12.out).mono ?_); rintro e w' ⟨rfl, ⟨nd, rfl⟩⟩; refine ⟨_, rfl, ?_⟩))
        go_ret
        exact ⟨by first | rfl | (simp [errW_none, errW_some] <;> rfl) | (simp [*, errW_none, errW_some] <;> rfl), by repeat (first | (with_reducible first | exact HB.out | apply below_alloc | apply pw_below_drewN | apply below_drew1) | exact HB.out)⟩
      · replace c9 := Bool.eq_false_iff.mpr c9
        subst c9
        have H1 : ((ciboriumref15_first.f kj4 a0).bind fun t106 => ((ciboriumref15_first.f kj4 a1).bind fun t107 => (if t106 = t107 then (if 0 ≤ (wrap64 ((a0.size : Int) - 1)) then (if (wrap64 ((a0.size : Int) - 1)) < (a0.size : Int) then (if 0 ≤ (wrap64 ((a1.size : Int) - 1)) then (if (wrap64 ((a1.size : Int) - 1)) < (a1.size : Int) then (if (((bt a0 (wrap64 ((a0.size : Int) - 1))) == 42) != ((bt a1 (wrap64 ((a1.size : Int) - 1))) == 42)) = true then ((ciboriumref15_number.f ((bt a1 (wrap64 ((a1.size : Int) - 1))) == 42)).bind fun t111 => ((ciboriumref15_number.f ((bt a0 (wrap64 ((a0.size : Int) - 1))) == 42)).bind fun t112 => ((ciboriumref15_than.f t111 t112).bind fun t113 => (some t113)))) else ((ciboriumref15_pluses.f kj4 a0).bind fun t114 => ((ciboriumref15_pluses.f kj4 a1).bind fun t115 => (if t114 = t115 then (if (a0.size : Int) = (a1.size : Int) then ((ciboriumref15_number.f (Op.bytesLess a1.toList a0.toList)).bind fun t119 => ((ciboriumref15_number.f (Op.bytesLess a0.toList a1.toList)).bind fun t120 => ((ciboriumref15_than.f t119 t120).bind fun t121 => (some t121)))) else ((ciboriumref15_than.f (a0.size : Int) (a1.size : Int)).bind fun t122 => (some t122))) else ((ciboriumref15_pluses.f kj4 a1).bind fun t116 => ((ciboriumref15_pluses.f kj4 a0).bind fun t117 => ((ciboriumref15_than.f t116 t117).bind fun t118 => (some t118)))))))) else (none)) else (none)) else (none)) else (none)) else ((ciboriumref15_first.f kj4 a0).bind fun t108 => ((ciboriumref15_first.f kj4 a1).bind fun t109 => ((ciboriumref15_than.f t108 t109).bind fun t110 => (some t110))))))) = some r := by rw [if_neg (show ¬ (false = true) by decide)] at H; exact H
        clear H
        have H := H1
        clear H1
        replace H := Option.bind_eq_some_iff.mp H
        obtain ⟨t106, A130, H⟩ := H
        replace H : ((ciboriumref15_first.f kj4 a1).bind fun t107 => (if t106 = t107 then (if 0 ≤ (wrap64 ((a0.size : Int) - 1)) then (if (wrap64 ((a0.size : Int) - 1)) < (a0.size : Int) then (if 0 ≤ (wrap64 ((a1.size : Int) - 1)) then (if (wrap64 ((a1.size : Int) - 1)) < (a1.size : Int) then (if (((bt a0 (wrap64 ((a0.size : Int) - 1))) == 42) != ((bt a1 (wrap64 ((a1.size : Int) - 1))) == 42)) = true then ((ciboriumref15_number.f ((bt a1 (wrap64 ((a1.size : Int) - 1))) == 42)).bind fun t111 => ((ciboriumref15_number.f ((bt a0 (wrap64 ((a0.size : Int) - 1))) == 42)).bind fun t112 => ((ciboriumref15_than.f t111 t112).bind fun t113 => (some t113)))) else ((ciboriumref15_pluses.f kj4 a0).bind fun t114 => ((ciboriumref15_pluses.f kj4 a1).bind fun t115 => (if t114 = t115 then (if (a0.size : Int) = (a1.size : Int) then ((ciboriumref15_number.f (Op.bytesLess a1.toList a0.toList)).bind fun t119 => ((ciboriumref15_number.f (Op.bytesLess a0.toList a1.toList)).bind fun t120 => ((ciboriumref15_than.f t119 t120).bind fun t121 => (some t121)))) else ((ciboriumref15_than.f (a0.size : Int) (a1.size : Int)).bind fun t122 => (some t122))) else ((ciboriumref15_pluses.f kj4 a1).bind fun t116 => ((ciboriumref15_pluses.f kj4 a0).bind fun t117 => ((ciboriumref15_than.f t116 t117).bind fun t118 => (some t118)))))))) else (none)) else (none)) else (none)) else (none)) else ((ciboriumref15_first.f kj4 a0).bind fun t108 => ((ciboriumref15_first.f kj4 a1).bind fun t109 => ((ciboriumref15_than.f t108 t109).bind fun t110 => (some t110)))))) = some r := H
        have A13 := Aside0.mk A130
        clear A130
        replace H := Option.bind_eq_some_iff.mp H
        obtain ⟨t107, A140, H⟩ := H
        replace H : (if t106 = t107 then (if 0 ≤ (wrap64 ((a0.size : Int) - 1)) then (if (wrap64 ((a0.size : Int) - 1)) < (a0.size : Int) then (if 0 ≤ (wrap64 ((a1.size : Int) - 1)) then (if (wrap64 ((a1.size : Int) - 1)) < (a1.size : Int) then (if (((bt a0 (wrap64 ((a0.size : Int) - 1))) == 42) != ((bt a1 (wrap64 ((a1.size : Int) - 1))) == 42)) = true then ((ciboriumref15_number.f ((bt a1 (wrap64 ((a1.size : Int) - 1))) == 42)).bind fun t111 => ((ciboriumref15_number.f ((bt a0 (wrap64 ((a0.size : Int) - 1))) == 42)).bind fun t112 => ((ciboriumref15_than.f t111 t112).bind fun t113 => (some t113)))) else ((ciboriumref15_pluses.f kj4 a0).bind fun t114 => ((ciboriumref15_pluses.f kj4 a1).bind fun t115 => (if t114 = t115 then (if (a0.size : Int) = (a1.size : Int) then ((ciboriumref15_number.f (Op.bytesLess a1.toList a0.toList)).bind fun t119 => ((ciboriumref15_number.f (Op.bytesLess a0.toList a1.toList)).bind fun t120 => ((ciboriumref15_than.f t119 t120).bind fun t121 => (some t121)))) else ((ciboriumref15_than.f (a0.size : Int) (a1.size : Int)).bind fun t122 => (some t122))) else ((ciboriumref15_pluses.f kj4 a1).bind fun t116 => ((ciboriumref15_pluses.f kj4 a0).bind fun t117 => ((ciboriumref15_than.f t116 t117).bind fun t118 => (some t118)))))))) else (none)) else (none)) else (none)) else (none)) else ((ciboriumref15_first.f kj4 a0).bind fun t108 => ((ciboriumref15_first.f kj4 a1).bind fun t109 => ((ciboriumref15_than.f t108 t109).bind fun t110 => (some t110))))) = some r := H
        have A14 := Aside0.mk A140
        clear A140
        by_cases c15 : t106 = t107
        · rw [if_pos c15] at H
          have c15b0 : (t106 == t107) = true := beq_iff_eq.mpr c15
          have c15b1 : (t106 != t107) = false := bne_eq_false_iff_eq.mpr c15
          clear c15
          obtain ⟨ji16, hji16⟩ : ∃ j_ : Int, (wrap64 ((a0.size : Int) - 1)) = j_ := ⟨_, rfl⟩
          replace H : (if 0 ≤ (ji16) then (if (ji16) < (a0.size : Int) then (if 0 ≤ (wrap64 ((a1.size : Int) - 1)) then (if (wrap64 ((a1.size : Int) - 1)) < (a1.size : Int) then (if (((bt a0 (ji16)) == 42) != ((bt a1 (wrap64 ((a1.size : Int) - 1))) == 42)) = true then ((ciboriumref15_number.f ((bt a1 (wrap64 ((a1.size : Int) - 1))) == 42)).bind fun t111 => ((ciboriumref15_number.f ((bt a0 (ji16)) == 42)).bind fun t112 => ((ciboriumref15_than.f t111 t112).bind fun t113 => (some t113)))) else ((ciboriumref15_pluses.f kj4 a0).bind fun t114 => ((ciboriumref15_pluses.f kj4 a1).bind fun t115 => (if t114 = t115 then (if (a0.size : Int) = (a1.size : Int) then ((ciboriumref15_number.f (Op.bytesLess a1.toList a0.toList)).bind fun t119 => ((ciboriumref15_number.f (Op.bytesLess a0.toList a1.toList)).bind fun t120 => ((ciboriumref15_than.f t119 t120).bind fun t121 => (some t121)))) else ((ciboriumref15_than.f (a0.size : Int) (a1.size : Int)).bind fun t122 => (some t122))) else ((ciboriumref15_pluses.f kj4 a1).bind fun t116 => ((ciboriumref15_pluses.f kj4 a0).bind fun t117 => ((ciboriumref15_than.f t116 t117).bind fun t118 => (some t118)))))))) else (none)) else (none)) else (none)) else (none)) = some r := by first | (rw [hji16] at H; exact H) | (simp only [hji16] at H ⊢; exact H)
          (try rw [hji16] at A13)
          (try rw [hji16] at A14)
          have hji16w : (IntKind.i64.wrap ((a0.size : Int) - 1)) = ji16 := (i64_w _).trans hji16
          by_cases c17 : 0 ≤ (ji16)
          · rw [if_pos c17] at H
            have c17b0 : decide (0 ≤ (ji16)) = true := decide_eq_true c17
            clear c17
            by_cases c18 : (ji16) < (a0.size : Int)
            · rw [if_pos c18] at H
              have c18b0 : decide ((ji16) < (a0.size : Int)) = true := decide_eq_true c18
              clear c18
              obtain ⟨ji20, hji20⟩ : ∃ j_ : Int, (wrap64 ((a1.size : Int) - 1)) = j_ := ⟨_, rfl⟩
              replace H : (if 0 ≤ (ji20) then (if (ji20) < (a1.size : Int) then (if (((bt a0 (ji16)) == 42) != ((bt a1 (ji20)) == 42)) = true then ((ciboriumref15_number.f ((bt a1 (ji20)) == 42)).bind fun t111 => ((ciboriumref15_number.f ((bt a0 (ji16)) == 42)).bind fun t112 => ((ciboriumref15_than.f t111 t112).bind fun t113 => (some t113)))) else ((ciboriumref15_pluses.f kj4 a0).bind fun t114 => ((ciboriumref15_pluses.f kj4 a1).bind fun t115 => (if t114 = t115 then (if (a0.size : Int) = (a1.size : Int) then ((ciboriumref15_number.f (Op.bytesLess a1.toList a0.toList)).bind fun t119 => ((ciboriumref15_number.f (Op.bytesLess a0.toList a1.toList)).bind fun t120 => ((ciboriumref15_than.f t119 t120).bind fun t121 => (some t121)))) else ((ciboriumref15_than.f (a0.size : Int) (a1.size : Int)).bind fun t122 => (some t122))) else ((ciboriumref15_pluses.f kj4 a1).bind fun t116 => ((ciboriumref15_pluses.f kj4 a0).bind fun t117 => ((ciboriumref15_than.f t116 t117).bind fun t118 => (some t118)))))))) else (none)) else (none)) = some r := by first | (rw [hji20] at H; exact H) | (simp only [hji20] at H ⊢; exact H)
              (try rw [hji20] at A13)
              (try rw [hji20] at A14)
              have hji20w : (IntKind.i64.wrap ((a1.size : Int) - 1)) = ji20 := (i64_w _).trans hji20
              by_cases c21 : 0 ≤ (ji20)
              · rw [if_pos c21] at H
                have c21b0 : decide (0 ≤ (ji20)) = true := decide_eq_true c21
                clear c21
                by_cases c22 : (ji20) < (a1.size : Int)
                · rw [if_pos c22] at H
                  have c22b0 : decide ((ji20) < (a1.size : Int)) = true := decide_eq_true c22
                  clear c22
                  by_cases c24 : (((bt a0 (ji16)) == 42) != ((bt a1 (ji20)) == 42)) = true
                  · rw [if_pos c24] at H
                    have c24b0 : (((bt a0 (ji16)) == 42) != ((bt a1 (ji20)) == 42)) = true := c24
                    (try (have c24b1 : decide (((bt a0 (ji16)) == 42) = ((bt a1 (ji20)) == 42)) = false := by simpa using c24))
                    (try (have c24b2 : (((bt a0 (ji16)) == 42) == ((bt a1 (ji20)) == 42)) = false := by simpa using c24))
                    (try (have c24b3 : ¬ (((bt a0 (ji16)) == 42) = ((bt a1 (ji20)) == 42)) := by simpa using c24))
                    clear c24
                    replace H := Option.bind_eq_some_iff.mp H
                    obtain ⟨t111, A250, H⟩ := H
                    replace H : ((ciboriumref15_number.f ((bt a0 (ji16)) == 42)).bind fun t112 => ((ciboriumref15_than.f t111 t112).bind fun t113 => (some t113))) = some r := H
                    have A25 := Aside0.mk A250
                    clear A250
                    replace H := Option.bind_eq_some_iff.mp H
                    obtain ⟨t112, A260, H⟩ := H
                    replace H : ((ciboriumref15_than.f t111 t112).bind fun t113 => (some t113)) = some r := H
                    have A26 := Aside0.mk A260
                    clear A260
                    replace H := Option.bind_eq_some_iff.mp H
                    obtain ⟨t113, A270, H⟩ := H
                    replace H : (some t113) = some r := H
                    have A27 := Aside0.mk A270
                    clear A270
                    obtain rfl := Option.some.inj H
                    go_wp2_with (first | ((with_reducible refine gate_callee (f := 45) rfl ?_); refine goesL_ (some 27) rfl rfl Tryd.func45 (by kernel_rfl) rfl #[.string a0] rfl (by (try simp only [List.map_toArray, List.map_cons, List.map_nil]); first | done | rfl | (simp only [List.length_drop, List.length_take]; rfl)) ?_; (with_reducible refine (ciboriumref15_first.calls kj4 a0 t106 _ A13.out).mono ?_); rintro e w' ⟨rfl, ⟨nd, rfl⟩⟩; refine ⟨_, rfl, ?_⟩) | ((with_reducible refine gate_callee (f := 45) rfl ?_); refine goesL_ (some 29) rfl rfl Tryd.func45 (by kernel_rfl) rfl #[.string a1] rfl (by (try simp only [List.map_toArray, List.map_cons, List.map_nil]); first | done | rfl | (simp only [List.length_drop, List.length_take]; rfl)) ?_; (with_reducible refine (ciboriumref15_first.calls kj4 a1 t107 _ A14.out).mono ?_); rintro e w' ⟨rfl, ⟨nd, rfl⟩⟩; refine ⟨_, rfl, ?_⟩; have p19 : 0 ≤ ((ji16) : Int) := of_decide_eq_true (by first | (with_reducible assumption) | assumption); have q19 : (ji16) < (a0.size : Int) := of_decide_eq_true (by first | (with_reducible assumption) | assumption); have hx19 := bt_at a0 (ji16); replace p19 := eq_true p19; replace q19 := eq_true q19; have p23 : 0 ≤ ((ji20) : Int) := of_decide_eq_true (by first | (with_reducible assumption) | assumption); have q23 : (ji20) < (a1.size : Int) := of_decide_eq_true (by first | (with_reducible assumption) | assumption); have hx23 := bt_at a1 (ji20); replace p23 := eq_true p23; replace q23 := eq_true q23) | ((with_reducible refine gate_callee (f := 44) rfl ?_); refine goesL_ (some 52) rfl rfl Tryd.func44 (by kernel_rfl) rfl #[.bool ((bt a1 (ji20)) == 42)] rfl (by (try simp only [List.map_toArray, List.map_cons, List.map_nil]); first | done | (simp only [hji20]; rfl) | rfl | (simp only [List.length_drop, List.length_take]; rfl)) ?_; (with_reducible refine (ciboriumref15_number.calls ((bt a1 (ji20)) == 42) t111 _ A25.out).mono ?_); rintro e w' ⟨rfl, ⟨nd, rfl⟩⟩; refine ⟨_, rfl, ?_⟩) | ((with_reducible refine gate_callee (f := 44) rfl ?_); refine goesL_ (some 54) rfl rfl Tryd.func44 (by kernel_rfl) rfl #[.bool ((bt a0 (ji16)) == 42)] rfl (by (try simp only [List.map_toArray, List.map_cons, List.map_nil]); first | done | (simp only [hji16]; rfl) | rfl | (simp only [List.length_drop, List.length_take]; rfl)) ?_; (with_reducible refine (ciboriumref15_number.calls ((bt a0 (ji16)) == 42) t112 _ A26.out).mono ?_); rintro e w' ⟨rfl, ⟨nd, rfl⟩⟩; refine ⟨_, rfl, ?_⟩) | ((with_reducible refine gate_callee (f := 43) rfl ?_); refine goesL_ (some 55) rfl rfl Tryd.func43 (by kernel_rfl) rfl #[.int .i64 t111, .int .i64 t112] rfl (by (try simp only [List.map_toArray, List.map_cons, List.map_nil]); first | done | rfl | (simp only [List.length_drop, List.length_take]; rfl)) ?_; (with_reducible refine (ciboriumref15_than.calls t111 t112 t113 _ A27.out).mono ?_); rintro e w' ⟨rfl, ⟨nd, rfl⟩⟩; refine ⟨_, rfl, ?_⟩))
                    go_ret
                    exact ⟨by first | rfl | (simp [errW_none, errW_some] <;> rfl) | (simp only [← hji16, ← hji20]; first | rfl | (simp [errW_none, errW_some] <;> rfl)) | (simp [*, errW_none, errW_some] <;> rfl), by repeat (first | (with_reducible first | exact HB.out | apply below_alloc | apply pw_below_drewN | apply below_drew1) | exact HB.out)⟩
                  · rw [if_neg c24] at H
                    have c24b0 : (((bt a0 (ji16)) == 42) != ((bt a1 (ji20)) == 42)) = false := by simpa using c24
                    (try (have c24b1 : decide (((bt a0 (ji16)) == 42) = ((bt a1 (ji20)) == 42)) = true := by simpa using c24))
                    (try (have c24b2 : (((bt a0 (ji16)) == 42) == ((bt a1 (ji20)) == 42)) = true := by simpa using c24))
                    clear c24
                    replace H := Option.bind_eq_some_iff.mp H
                    obtain ⟨t114, A280, H⟩ := H
                    replace H : ((ciboriumref15_pluses.f kj4 a1).bind fun t115 => (if t114 = t115 then (if (a0.size : Int) = (a1.size : Int) then ((ciboriumref15_number.f (Op.bytesLess a1.toList a0.toList)).bind fun t119 => ((ciboriumref15_number.f (Op.bytesLess a0.toList a1.toList)).bind fun t120 => ((ciboriumref15_than.f t119 t120).bind fun t121 => (some t121)))) else ((ciboriumref15_than.f (a0.size : Int) (a1.size : Int)).bind fun t122 => (some t122))) else ((ciboriumref15_pluses.f kj4 a1).bind fun t116 => ((ciboriumref15_pluses.f kj4 a0).bind fun t117 => ((ciboriumref15_than.f t116 t117).bind fun t118 => (some t118)))))) = some r := H
                    have A28 := Aside0.mk A280
                    clear A280
                    replace H := Option.bind_eq_some_iff.mp H
                    obtain ⟨t115, A290, H⟩ := H
                    replace H : (if t114 = t115 then (if (a0.size : Int) = (a1.size : Int) then ((ciboriumref15_number.f (Op.bytesLess a1.toList a0.toList)).bind fun t119 => ((ciboriumref15_number.f (Op.bytesLess a0.toList a1.toList)).bind fun t120 => ((ciboriumref15_than.f t119 t120).bind fun t121 => (some t121)))) else ((ciboriumref15_than.f (a0.size : Int) (a1.size : Int)).bind fun t122 => (some t122))) else ((ciboriumref15_pluses.f kj4 a1).bind fun t116 => ((ciboriumref15_pluses.f kj4 a0).bind fun t117 => ((ciboriumref15_than.f t116 t117).bind fun t118 => (some t118))))) = some r := H
                    have A29 := Aside0.mk A290
                    clear A290
                    by_cases c30 : t114 = t115
                    · rw [if_pos c30] at H
                      have c30b0 : (t114 == t115) = true := beq_iff_eq.mpr c30
                      have c30b1 : (t114 != t115) = false := bne_eq_false_iff_eq.mpr c30
                      clear c30
                      by_cases c31 : (a0.size : Int) = (a1.size : Int)
                      · rw [if_pos c31] at H
                        have c31b0 : ((a0.size : Int) == (a1.size : Int)) = true := beq_iff_eq.mpr c31
                        have c31b1 : ((a0.size : Int) != (a1.size : Int)) = false := bne_eq_false_iff_eq.mpr c31
                        have c31b2 : (a0.size == a1.size) = true := by first | simpa using c31 | (simp at c31 ⊢; omega)
                        clear c31
                        replace H := Option.bind_eq_some_iff.mp H
                        obtain ⟨t119, A320, H⟩ := H
                        replace H : ((ciboriumref15_number.f (Op.bytesLess a0.toList a1.toList)).bind fun t120 => ((ciboriumref15_than.f t119 t120).bind fun t121 => (some t121))) = some r := H
                        have A32 := Aside0.mk A320
                        clear A320
                        replace H := Option.bind_eq_some_iff.mp H
                        obtain ⟨t120, A330, H⟩ := H
                        replace H : ((ciboriumref15_than.f t119 t120).bind fun t121 => (some t121)) = some r := H
                        have A33 := Aside0.mk A330
                        clear A330
                        replace H := Option.bind_eq_some_iff.mp H
                        obtain ⟨t121, A340, H⟩ := H
                        replace H : (some t121) = some r := H
                        have A34 := Aside0.mk A340
                        clear A340
                        obtain rfl := Option.some.inj H
                        go_wp2_with (first | ((with_reducible refine gate_callee (f := 45) rfl ?_); refine goesL_ (some 27) rfl rfl Tryd.func45 (by kernel_rfl) rfl #[.string a0] rfl (by (try simp only [List.map_toArray, List.map_cons, List.map_nil]); first | done | rfl | (simp only [List.length_drop, List.length_take]; rfl) | (simp only [Go.Proofs.YtilhpgjohpekkaaDoor.StrLess.gt_law]; done) | (simp only [Go.Proofs.YtilhpgjohpekkaaDoor.StrLess.gt_law]; rfl)) ?_; (with_reducible refine (ciboriumref15_first.calls kj4 a0 t106 _ A13.out).mono ?_); rintro e w' ⟨rfl, ⟨nd, rfl⟩⟩; refine ⟨_, rfl, ?_⟩) | ((with_reducible refine gate_callee (f := 45) rfl ?_); refine goesL_ (some 29) rfl rfl Tryd.func45 (by kernel_rfl) rfl #[.string a1] rfl (by (try simp only [List.map_toArray, List.map_cons, List.map_nil]); first | done | rfl | (simp only [List.length_drop, List.length_take]; rfl) | (simp only [Go.Proofs.YtilhpgjohpekkaaDoor.StrLess.gt_law]; done) | (simp only [Go.Proofs.YtilhpgjohpekkaaDoor.StrLess.gt_law]; rfl)) ?_; (with_reducible refine (ciboriumref15_first.calls kj4 a1 t107 _ A14.out).mono ?_); rintro e w' ⟨rfl, ⟨nd, rfl⟩⟩; refine ⟨_, rfl, ?_⟩; have p19 : 0 ≤ ((ji16) : Int) := of_decide_eq_true (by first | (with_reducible assumption) | assumption); have q19 : (ji16) < (a0.size : Int) := of_decide_eq_true (by first | (with_reducible assumption) | assumption); have hx19 := bt_at a0 (ji16); replace p19 := eq_true p19; replace q19 := eq_true q19; have p23 : 0 ≤ ((ji20) : Int) := of_decide_eq_true (by first | (with_reducible assumption) | assumption); have q23 : (ji20) < (a1.size : Int) := of_decide_eq_true (by first | (with_reducible assumption) | assumption); have hx23 := bt_at a1 (ji20); replace p23 := eq_true p23; replace q23 := eq_true q23) | ((with_reducible refine gate_callee (f := 46) rfl ?_); refine goesL_ (some 57) rfl rfl Tryd.func46 (by kernel_rfl) rfl #[.string a0] rfl (by (try simp only [List.map_toArray, List.map_cons, List.map_nil]); first | done | rfl | (simp only [List.length_drop, List.length_take]; rfl) | (simp only [Go.Proofs.YtilhpgjohpekkaaDoor.StrLess.gt_law]; done) | (simp only [Go.Proofs.YtilhpgjohpekkaaDoor.StrLess.gt_law]; rfl)) ?_; (with_reducible refine (ciboriumref15_pluses.calls kj4 a0 t114 _ A28.out).mono ?_); rintro e w' ⟨rfl, ⟨nd, rfl⟩⟩; refine ⟨_, rfl, ?_⟩) | ((with_reducible refine gate_callee (f := 46) rfl ?_); refine goesL_ (some 59) rfl rfl Tryd.func46 (by kernel_rfl) rfl #[.string a1] rfl (by (try simp only [List.map_toArray, List.map_cons, List.map_nil]); first | done | rfl | (simp only [List.length_drop, List.length_take]; rfl) | (simp only [Go.Proofs.YtilhpgjohpekkaaDoor.StrLess.gt_law]; done) | (simp only [Go.Proofs.YtilhpgjohpekkaaDoor.StrLess.gt_law]; rfl)) ?_; (with_reducible refine (ciboriumref15_pluses.calls kj4 a1 t115 _ A29.out).mono ?_); rintro e w' ⟨rfl, ⟨nd, rfl⟩⟩; refine ⟨_, rfl, ?_⟩) | ((with_reducible refine gate_callee (f := 44) rfl ?_); refine goesL_ (some 79) rfl rfl Tryd.func44 (by kernel_rfl) rfl #[.bool (Op.bytesLess a1.toList a0.toList)] rfl (by (try simp only [List.map_toArray, List.map_cons, List.map_nil]); first | done | rfl | (simp only [List.length_drop, List.length_take]; rfl) | (simp only [Go.Proofs.YtilhpgjohpekkaaDoor.StrLess.gt_law]; done) | (simp only [Go.Proofs.YtilhpgjohpekkaaDoor.StrLess.gt_law]; rfl)) ?_; (with_reducible refine (ciboriumref15_number.calls (Op.bytesLess a1.toList a0.toList) t119 _ A32.out).mono ?_); rintro e w' ⟨rfl, ⟨nd, rfl⟩⟩; refine ⟨_, rfl, ?_⟩) | ((with_reducible refine gate_callee (f := 44) rfl ?_); refine goesL_ (some 83) rfl rfl Tryd.func44 (by kernel_rfl) rfl #[.bool (Op.bytesLess a0.toList a1.toList)] rfl (by (try simp only [List.map_toArray, List.map_cons, List.map_nil]); first | done | rfl | (simp only [List.length_drop, List.length_take]; rfl) | (simp only [Go.Proofs.YtilhpgjohpekkaaDoor.StrLess.gt_law]; done) | (simp only [Go.Proofs.YtilhpgjohpekkaaDoor.StrLess.gt_law]; rfl)) ?_; (with_reducible refine (ciboriumref15_number.calls (Op.bytesLess a0.toList a1.toList) t120 _ A33.out).mono ?_); rintro e w' ⟨rfl, ⟨nd, rfl⟩⟩; refine ⟨_, rfl, ?_⟩) | ((with_reducible refine gate_callee (f := 43) rfl ?_); refine goesL_ (some 84) rfl rfl Tryd.func43 (by kernel_rfl) rfl #[.int .i64 t119, .int .i64 t120] rfl (by (try simp only [List.map_toArray, List.map_cons, List.map_nil]); first | done | rfl | (simp only [List.length_drop, List.length_take]; rfl) | (simp only [Go.Proofs.YtilhpgjohpekkaaDoor.StrLess.gt_law]; done) | (simp only [Go.Proofs.YtilhpgjohpekkaaDoor.StrLess.gt_law]; rfl)) ?_; (with_reducible refine (ciboriumref15_than.calls t119 t120 t121 _ A34.out).mono ?_); rintro e w' ⟨rfl, ⟨nd, rfl⟩⟩; refine ⟨_, rfl, ?_⟩))
                        go_ret
                        exact ⟨by first | rfl | (simp [errW_none, errW_some] <;> rfl) | (simp only [← hji16, ← hji20]; first | rfl | (simp [errW_none, errW_some] <;> rfl)) | (simp [*, errW_none, errW_some] <;> rfl), by repeat (first | (with_reducible first | exact HB.out | apply below_alloc | apply pw_below_drewN | apply below_drew1) | exact HB.out)⟩
                      · rw [if_neg c31] at H
                        have c31b0 : ((a0.size : Int) == (a1.size : Int)) = false := beq_eq_false_iff_ne.mpr c31
                        have c31b1 : ((a0.size : Int) != (a1.size : Int)) = true := bne_iff_ne.mpr c31
                        have c31b2 : (a0.size == a1.size) = false := by first | simpa using c31 | (simp at c31 ⊢; omega)
                        replace H := Option.bind_eq_some_iff.mp H
                        obtain ⟨t122, A350, H⟩ := H
                        replace H : (some t122) = some r := H
                        have A35 := Aside0.mk A350
                        clear A350
                        obtain rfl := Option.some.inj H
                        go_wp2_with (first | ((with_reducible refine gate_callee (f := 45) rfl ?_); refine goesL_ (some 27) rfl rfl Tryd.func45 (by kernel_rfl) rfl #[.string a0] rfl (by (try simp only [List.map_toArray, List.map_cons, List.map_nil]); first | done | rfl | (simp only [List.length_drop, List.length_take]; rfl)) ?_; (with_reducible refine (ciboriumref15_first.calls kj4 a0 t106 _ A13.out).mono ?_); rintro e w' ⟨rfl, ⟨nd, rfl⟩⟩; refine ⟨_, rfl, ?_⟩) | ((with_reducible refine gate_callee (f := 45) rfl ?_); refine goesL_ (some 29) rfl rfl Tryd.func45 (by kernel_rfl) rfl #[.string a1] rfl (by (try simp only [List.map_toArray, List.map_cons, List.map_nil]); first | done | rfl | (simp only [List.length_drop, List.length_take]; rfl)) ?_; (with_reducible refine (ciboriumref15_first.calls kj4 a1 t107 _ A14.out).mono ?_); rintro e w' ⟨rfl, ⟨nd, rfl⟩⟩; refine ⟨_, rfl, ?_⟩; have p19 : 0 ≤ ((ji16) : Int) := of_decide_eq_true (by first | (with_reducible assumption) | assumption); have q19 : (ji16) < (a0.size : Int) := of_decide_eq_true (by first | (with_reducible assumption) | assumption); have hx19 := bt_at a0 (ji16); replace p19 := eq_true p19; replace q19 := eq_true q19; have p23 : 0 ≤ ((ji20) : Int) := of_decide_eq_true (by first | (with_reducible assumption) | assumption); have q23 : (ji20) < (a1.size : Int) := of_decide_eq_true (by first | (with_reducible assumption) | assumption); have hx23 := bt_at a1 (ji20); replace p23 := eq_true p23; replace q23 := eq_true q23) | ((with_reducible refine gate_callee (f := 46) rfl ?_); refine goesL_ (some 57) rfl rfl Tryd.func46 (by kernel_rfl) rfl #[.string a0] rfl (by (try simp only [List.map_toArray, List.map_cons, List.map_nil]); first | done | rfl | (simp only [List.length_drop, List.length_take]; rfl)) ?_; (with_reducible refine (ciboriumref15_pluses.calls kj4 a0 t114 _ A28.out).mono ?_); rintro e w' ⟨rfl, ⟨nd, rfl⟩⟩; refine ⟨_, rfl, ?_⟩) | ((with_reducible refine gate_callee (f := 46) rfl ?_); refine goesL_ (some 59) rfl rfl Tryd.func46 (by kernel_rfl) rfl #[.string a1] rfl (by (try simp only [List.map_toArray, List.map_cons, List.map_nil]); first | done | rfl | (simp only [List.length_drop, List.length_take]; rfl)) ?_; (with_reducible refine (ciboriumref15_pluses.calls kj4 a1 t115 _ A29.out).mono ?_); rintro e w' ⟨rfl, ⟨nd, rfl⟩⟩; refine ⟨_, rfl, ?_⟩) | ((with_reducible refine gate_callee (f := 43) rfl ?_); refine goesL_ (some 75) rfl rfl Tryd.func43 (by kernel_rfl) rfl #[.int .i64 (a0.size : Int), .int .i64 (a1.size : Int)] rfl (by (try simp only [List.map_toArray, List.map_cons, List.map_nil]); first | done | rfl | (simp only [List.length_drop, List.length_take]; rfl)) ?_; (with_reducible refine (ciboriumref15_than.calls (a0.size : Int) (a1.size : Int) t122 _ A35.out).mono ?_); rintro e w' ⟨rfl, ⟨nd, rfl⟩⟩; refine ⟨_, rfl, ?_⟩))
                        go_ret
                        exact ⟨by first | rfl | (simp [errW_none, errW_some] <;> rfl) | (simp only [← hji16, ← hji20]; first | rfl | (simp [errW_none, errW_some] <;> rfl)) | (simp [*, errW_none, errW_some] <;> rfl), by repeat (first | (with_reducible first | exact HB.out | apply below_alloc | apply pw_below_drewN | apply below_drew1) | exact HB.out)⟩
                    · rw [if_neg c30] at H
                      have c30b0 : (t114 == t115) = false := beq_eq_false_iff_ne.mpr c30
                      have c30b1 : (t114 != t115) = true := bne_iff_ne.mpr c30
                      replace H := Option.bind_eq_some_iff.mp H
                      obtain ⟨t116, A360, H⟩ := H
                      replace H : ((ciboriumref15_pluses.f kj4 a0).bind fun t117 => ((ciboriumref15_than.f t116 t117).bind fun t118 => (some t118))) = some r := H
                      have A36 := Aside0.mk A360
                      clear A360
                      replace H := Option.bind_eq_some_iff.mp H
                      obtain ⟨t117, A370, H⟩ := H
                      replace H : ((ciboriumref15_than.f t116 t117).bind fun t118 => (some t118)) = some r := H
                      have A37 := Aside0.mk A370
                      clear A370
                      replace H := Option.bind_eq_some_iff.mp H
                      obtain ⟨t118, A380, H⟩ := H
                      replace H : (some t118) = some r := H
                      have A38 := Aside0.mk A380
                      clear A380
                      obtain rfl := Option.some.inj H
                      go_wp2_with (first | ((with_reducible refine gate_callee (f := 45) rfl ?_); refine goesL_ (some 27) rfl rfl Tryd.func45 (by kernel_rfl) rfl #[.string a0] rfl (by (try simp only [List.map_toArray, List.map_cons, List.map_nil]); first | done | rfl | (simp only [List.length_drop, List.length_take]; rfl)) ?_; (with_reducible refine (ciboriumref15_first.calls kj4 a0 t106 _ A13.out).mono ?_); rintro e w' ⟨rfl, ⟨nd, rfl⟩⟩; refine ⟨_, rfl, ?_⟩) | ((with_reducible refine gate_callee (f := 45) rfl ?_); refine goesL_ (some 29) rfl rfl Tryd.func45 (by kernel_rfl) rfl #[.string a1] rfl (by (try simp only [List.map_toArray, List.map_cons, List.map_nil]); first | done | rfl | (simp only [List.length_drop, List.length_take]; rfl)) ?_; (with_reducible refine (ciboriumref15_first.calls kj4 a1 t107 _ A14.out).mono ?_); rintro e w' ⟨rfl, ⟨nd, rfl⟩⟩; refine ⟨_, rfl, ?_⟩; have p19 : 0 ≤ ((ji16) : Int) := of_decide_eq_true (by first | (with_reducible assumption) | assumption); have q19 : (ji16) < (a0.size : Int) := of_decide_eq_true (by first | (with_reducible assumption) | assumption); have hx19 := bt_at a0 (ji16); replace p19 := eq_true p19; replace q19 := eq_true q19; have p23 : 0 ≤ ((ji20) : Int) := of_decide_eq_true (by first | (with_reducible assumption) | assumption); have q23 : (ji20) < (a1.size : Int) := of_decide_eq_true (by first | (with_reducible assumption) | assumption); have hx23 := bt_at a1 (ji20); replace p23 := eq_true p23; replace q23 := eq_true q23) | ((with_reducible refine gate_callee (f := 46) rfl ?_); refine goesL_ (some 57) rfl rfl Tryd.func46 (by kernel_rfl) rfl #[.string a0] rfl (by (try simp only [List.map_toArray, List.map_cons, List.map_nil]); first | done | rfl | (simp only [List.length_drop, List.length_take]; rfl)) ?_; (with_reducible refine (ciboriumref15_pluses.calls kj4 a0 t114 _ A28.out).mono ?_); rintro e w' ⟨rfl, ⟨nd, rfl⟩⟩; refine ⟨_, rfl, ?_⟩) | ((with_reducible refine gate_callee (f := 46) rfl ?_); refine goesL_ (some 59) rfl rfl Tryd.func46 (by kernel_rfl) rfl #[.string a1] rfl (by (try simp only [List.map_toArray, List.map_cons, List.map_nil]); first | done | rfl | (simp only [List.length_drop, List.length_take]; rfl)) ?_; (with_reducible refine (ciboriumref15_pluses.calls kj4 a1 t115 _ A29.out).mono ?_); rintro e w' ⟨rfl, ⟨nd, rfl⟩⟩; refine ⟨_, rfl, ?_⟩) | ((with_reducible refine gate_callee (f := 46) rfl ?_); refine goesL_ (some 62) rfl rfl Tryd.func46 (by kernel_rfl) rfl #[.string a1] rfl (by (try simp only [List.map_toArray, List.map_cons, List.map_nil]); first | done | rfl | (simp only [List.length_drop, List.length_take]; rfl)) ?_; (with_reducible refine (ciboriumref15_pluses.calls kj4 a1 t116 _ A36.out).mono ?_); rintro e w' ⟨rfl, ⟨nd, rfl⟩⟩; refine ⟨_, rfl, ?_⟩) | ((with_reducible refine gate_callee (f := 46) rfl ?_); refine goesL_ (some 64) rfl rfl Tryd.func46 (by kernel_rfl) rfl #[.string a0] rfl (by (try simp only [List.map_toArray, List.map_cons, List.map_nil]); first | done | rfl | (simp only [List.length_drop, List.length_take]; rfl)) ?_; (with_reducible refine (ciboriumref15_pluses.calls kj4 a0 t117 _ A37.out).mono ?_); rintro e w' ⟨rfl, ⟨nd, rfl⟩⟩; refine ⟨_, rfl, ?_⟩) | ((with_reducible refine gate_callee (f := 43) rfl ?_); refine goesL_ (some 65) rfl rfl Tryd.func43 (by kernel_rfl) rfl #[.int .i64 t116, .int .i64 t117] rfl (by (try simp only [List.map_toArray, List.map_cons, List.map_nil]); first | done | rfl | (simp only [List.length_drop, List.length_take]; rfl)) ?_; (with_reducible refine (ciboriumref15_than.calls t116 t117 t118 _ A38.out).mono ?_); rintro e w' ⟨rfl, ⟨nd, rfl⟩⟩; refine ⟨_, rfl, ?_⟩))
                      go_ret
                      exact ⟨by first | rfl | (simp [errW_none, errW_some] <;> rfl) | (simp only [← hji16, ← hji20]; first | rfl | (simp [errW_none, errW_some] <;> rfl)) | (simp [*, errW_none, errW_some] <;> rfl), by repeat (first | (with_reducible first | exact HB.out | apply below_alloc | apply pw_below_drewN | apply below_drew1) | exact HB.out)⟩
                · rw [if_neg c22] at H
                  exact absurd H (by simp)
              · rw [if_neg c21] at H
                exact absurd H (by simp)
            · rw [if_neg c18] at H
              exact absurd H (by simp)
          · rw [if_neg c17] at H
            exact absurd H (by simp)
        · rw [if_neg c15] at H
          have c15b0 : (t106 == t107) = false := beq_eq_false_iff_ne.mpr c15
          have c15b1 : (t106 != t107) = true := bne_iff_ne.mpr c15
          replace H := Option.bind_eq_some_iff.mp H
          obtain ⟨t108, A390, H⟩ := H
          replace H : ((ciboriumref15_first.f kj4 a1).bind fun t109 => ((ciboriumref15_than.f t108 t109).bind fun t110 => (some t110))) = some r := H
          have A39 := Aside0.mk A390
          clear A390
          replace H := Option.bind_eq_some_iff.mp H
          obtain ⟨t109, A400, H⟩ := H
          replace H : ((ciboriumref15_than.f t108 t109).bind fun t110 => (some t110)) = some r := H
          have A40 := Aside0.mk A400
          clear A400
          replace H := Option.bind_eq_some_iff.mp H
          obtain ⟨t110, A410, H⟩ := H
          replace H : (some t110) = some r := H
          have A41 := Aside0.mk A410
          clear A410
          obtain rfl := Option.some.inj H
          go_wp2_with (first | ((with_reducible refine gate_callee (f := 45) rfl ?_); refine goesL_ (some 27) rfl rfl Tryd.func45 (by kernel_rfl) rfl #[.string a0] rfl (by (try simp only [List.map_toArray, List.map_cons, List.map_nil]); first | done | rfl | (simp only [List.length_drop, List.length_take]; rfl)) ?_; (with_reducible refine (ciboriumref15_first.calls kj4 a0 t106 _ A13.out).mono ?_); rintro e w' ⟨rfl, ⟨nd, rfl⟩⟩; refine ⟨_, rfl, ?_⟩) | ((with_reducible refine gate_callee (f := 45) rfl ?_); refine goesL_ (some 29) rfl rfl Tryd.func45 (by kernel_rfl) rfl #[.string a1] rfl (by (try simp only [List.map_toArray, List.map_cons, List.map_nil]); first | done | rfl | (simp only [List.length_drop, List.length_take]; rfl)) ?_; (with_reducible refine (ciboriumref15_first.calls kj4 a1 t107 _ A14.out).mono ?_); rintro e w' ⟨rfl, ⟨nd, rfl⟩⟩; refine ⟨_, rfl, ?_⟩) | ((with_reducible refine gate_callee (f := 45) rfl ?_); refine goesL_ (some 32) rfl rfl Tryd.func45 (by kernel_rfl) rfl #[.string a0] rfl (by (try simp only [List.map_toArray, List.map_cons, List.map_nil]); first | done | rfl | (simp only [List.length_drop, List.length_take]; rfl)) ?_; (with_reducible refine (ciboriumref15_first.calls kj4 a0 t108 _ A39.out).mono ?_); rintro e w' ⟨rfl, ⟨nd, rfl⟩⟩; refine ⟨_, rfl, ?_⟩) | ((with_reducible refine gate_callee (f := 45) rfl ?_); refine goesL_ (some 34) rfl rfl Tryd.func45 (by kernel_rfl) rfl #[.string a1] rfl (by (try simp only [List.map_toArray, List.map_cons, List.map_nil]); first | done | rfl | (simp only [List.length_drop, List.length_take]; rfl)) ?_; (with_reducible refine (ciboriumref15_first.calls kj4 a1 t109 _ A40.out).mono ?_); rintro e w' ⟨rfl, ⟨nd, rfl⟩⟩; refine ⟨_, rfl, ?_⟩) | ((with_reducible refine gate_callee (f := 43) rfl ?_); refine goesL_ (some 35) rfl rfl Tryd.func43 (by kernel_rfl) rfl #[.int .i64 t108, .int .i64 t109] rfl (by (try simp only [List.map_toArray, List.map_cons, List.map_nil]); first | done | rfl | (simp only [List.length_drop, List.length_take]; rfl)) ?_; (with_reducible refine (ciboriumref15_than.calls t108 t109 t110 _ A41.out).mono ?_); rintro e w' ⟨rfl, ⟨nd, rfl⟩⟩; refine ⟨_, rfl, ?_⟩))
          go_ret
          exact ⟨by first | rfl | (simp [errW_none, errW_some] <;> rfl) | (simp [*, errW_none, errW_some] <;> rfl), by repeat (first | (with_reducible first | exact HB.out | apply below_alloc | apply pw_below_drewN | apply below_drew1) | exact HB.out)⟩

/-! ### ciboriumlaw15_PathMore: function 8 -/
def ciboriumlaw15_PathMore.f (k : Nat) (a0 : ByteArray) (a1 : ByteArray) : Option (Bool) := if (wrap64 ((a0.size : Int) + (a1.size : Int))) > 65536 then ((ciboriumlaw15_works.f k).bind fun t123 => (some t123)) else ((path_More.f a0 a1).bind fun t124 => ((ciboriumref15_More.f k a0 a1).bind fun t125 => (if t124 = t125 then ((path_More.f a1 a0).bind fun t126 => ((ciboriumref15_More.f k a1 a0).bind fun t127 => (if t126 = t127 then ((ciboriumlaw15_works.f k).bind fun t128 => (some t128)) else (some false)))) else (some false))))
theorem ciboriumlaw15_PathMore.mono : ∀ a0 a1 k, LeO (ciboriumlaw15_PathMore.f k a0 a1) (ciboriumlaw15_PathMore.f (k + 1) a0 a1) := by
  intro a0 a1 k
  unfold ciboriumlaw15_PathMore.f
  repeat' first
      | (with_reducible exact ciboriumlaw15_works.mono _)
      | (with_reducible exact ciboriumref15_More.mono _ _ _)
      | (with_reducible exact LeO.refl _)
      | (with_reducible exact LeO.none _)
      | (with_reducible refine LeO.ite ?_ ?_)
      | (with_reducible refine LeO.bind ?_ (fun _ => ?_))
      | exact ciboriumlaw15_works.mono _
      | exact ciboriumref15_More.mono _ _ _
      | exact LeO.none _
      | refine LeO.ite ?_ ?_
      | refine LeO.bind ?_ (fun _ => ?_)
set_option maxHeartbeats 8000000 in
set_option maxRecDepth 100000 in
theorem ciboriumlaw15_PathMore.calls (k : Nat) (a0 : ByteArray) (a1 : ByteArray) (r : Bool) (w : World) (h : ciboriumlaw15_PathMore.f k a0 a1 = some r) :
    Calls Tryd.prog 8 #[.string a0, .string a1] w fun e w' => e = .returned (.bool r) ∧ Below w.heap.size w w' := by
  have HB := Aside0.mk (Below.refl w.heap.size w)
  have H : (if (wrap64 ((a0.size : Int) + (a1.size : Int))) > 65536 then ((ciboriumlaw15_works.f k).bind fun t123 => (some t123)) else ((path_More.f a0 a1).bind fun t124 => ((ciboriumref15_More.f k a0 a1).bind fun t125 => (if t124 = t125 then ((path_More.f a1 a0).bind fun t126 => ((ciboriumref15_More.f k a1 a0).bind fun t127 => (if t126 = t127 then ((ciboriumlaw15_works.f k).bind fun t128 => (some t128)) else (some false)))) else (some false))))) = some r := h
  clear h
  by_cases c3 : (wrap64 ((a0.size : Int) + (a1.size : Int))) > 65536
  · rw [if_pos c3] at H
    have c3b0 : decide (65536 < (wrap64 ((a0.size : Int) + (a1.size : Int)))) = true := decide_eq_true c3
    clear c3
    replace H := Option.bind_eq_some_iff.mp H
    obtain ⟨t123, A40, H⟩ := H
    replace H : (some t123) = some r := H
    have A4 := Aside0.mk A40
    clear A40
    obtain rfl := Option.some.inj H
    go_enter Tryd.func8, Tryd.ntmps8
    go_wp2_with (first | ((with_reducible refine gate_callee (f := 11) rfl ?_); refine goesL_ (some 11) rfl rfl Tryd.func11 (by kernel_rfl) rfl #[] rfl (by (try simp only [List.map_toArray, List.map_cons, List.map_nil]); first | done | rfl | (simp only [List.length_drop, List.length_take]; rfl)) ?_; (with_reducible refine (ciboriumlaw15_works.calls k  t123 _ A4.out).mono ?_); rintro e w5 ⟨rfl, hb⟩; refine ⟨_, rfl, ?_⟩; have n0_ := Aside0.mk (below_step (by repeat (first | (with_reducible first | exact HB.out | apply below_alloc | apply pw_below_drewN | apply below_drew1) | exact HB.out)) hb); clear HB; have HB := n0_; clear n0_; (try clear hb); (try clear hb2); (try clear hk); (try clear hi)))
    go_ret
    exact ⟨by first | rfl | (simp [errW_none, errW_some] <;> rfl) | (simp [*, errW_none, errW_some] <;> rfl), by repeat (first | (with_reducible first | exact HB.out | apply below_alloc | apply pw_below_drewN | apply below_drew1) | exact HB.out)⟩
  · rw [if_neg c3] at H
    have c3b0 : decide (65536 < (wrap64 ((a0.size : Int) + (a1.size : Int)))) = false := decide_eq_false c3
    clear c3
    replace H := Option.bind_eq_some_iff.mp H
    obtain ⟨t124, A60, H⟩ := H
    replace H : ((ciboriumref15_More.f k a0 a1).bind fun t125 => (if t124 = t125 then ((path_More.f a1 a0).bind fun t126 => ((ciboriumref15_More.f k a1 a0).bind fun t127 => (if t126 = t127 then ((ciboriumlaw15_works.f k).bind fun t128 => (some t128)) else (some false)))) else (some false))) = some r := H
    have A6 := Aside0.mk A60
    clear A60
    replace H := Option.bind_eq_some_iff.mp H
    obtain ⟨t125, A70, H⟩ := H
    replace H : (if t124 = t125 then ((path_More.f a1 a0).bind fun t126 => ((ciboriumref15_More.f k a1 a0).bind fun t127 => (if t126 = t127 then ((ciboriumlaw15_works.f k).bind fun t128 => (some t128)) else (some false)))) else (some false)) = some r := H
    have A7 := Aside0.mk A70
    clear A70
    by_cases c8 : t124 = t125
    · rw [if_pos c8] at H
      have c8b0 : (t124 == t125) = true := beq_iff_eq.mpr c8
      have c8b1 : (t124 != t125) = false := bne_eq_false_iff_eq.mpr c8
      clear c8
      replace H := Option.bind_eq_some_iff.mp H
      obtain ⟨t126, A90, H⟩ := H
      replace H : ((ciboriumref15_More.f k a1 a0).bind fun t127 => (if t126 = t127 then ((ciboriumlaw15_works.f k).bind fun t128 => (some t128)) else (some false))) = some r := H
      have A9 := Aside0.mk A90
      clear A90
      replace H := Option.bind_eq_some_iff.mp H
      obtain ⟨t127, A100, H⟩ := H
      replace H : (if t126 = t127 then ((ciboriumlaw15_works.f k).bind fun t128 => (some t128)) else (some false)) = some r := H
      have A10 := Aside0.mk A100
      clear A100
      by_cases c11 : t126 = t127
      · rw [if_pos c11] at H
        have c11b0 : (t126 == t127) = true := beq_iff_eq.mpr c11
        have c11b1 : (t126 != t127) = false := bne_eq_false_iff_eq.mpr c11
        clear c11
        replace H := Option.bind_eq_some_iff.mp H
        obtain ⟨t128, A120, H⟩ := H
        replace H : (some t128) = some r := H
        have A12 := Aside0.mk A120
        clear A120
        obtain rfl := Option.some.inj H
        go_enter Tryd.func8, Tryd.ntmps8
        go_wp2_with (first | ((with_reducible refine gate_callee (f := 26) rfl ?_); refine goesL_ (some 14) rfl rfl Tryd.func26 (by kernel_rfl) rfl #[.string a0, .string a1] rfl (by (try simp only [List.map_toArray, List.map_cons, List.map_nil]); first | done | rfl | (simp only [List.length_drop, List.length_take]; rfl)) ?_; (with_reducible refine (path_More.calls a0 a1 t124 _ A6.out).mono ?_); rintro e w13 ⟨rfl, hb⟩; refine ⟨_, rfl, ?_⟩; have n0_ := Aside0.mk (below_step (by repeat (first | (with_reducible first | exact HB.out | apply below_alloc | apply pw_below_drewN | apply below_drew1) | exact HB.out)) hb); clear HB; have HB := n0_; clear n0_; (try clear hb); (try clear hb2); (try clear hk); (try clear hi)) | ((with_reducible refine gate_callee (f := 27) rfl ?_); refine goesL_ (some 17) rfl rfl Tryd.func27 (by kernel_rfl) rfl #[.string a0, .string a1] rfl (by (try simp only [List.map_toArray, List.map_cons, List.map_nil]); first | done | rfl | (simp only [List.length_drop, List.length_take]; rfl)) ?_; (with_reducible refine (ciboriumref15_More.calls k a0 a1 t125 _ A7.out).mono ?_); rintro e w14 ⟨rfl, hb⟩; refine ⟨_, rfl, ?_⟩; have n0_ := Aside0.mk (below_step (by repeat (first | (with_reducible first | exact HB.out | apply below_alloc | apply pw_below_drewN | apply below_drew1) | exact HB.out)) hb); clear HB; have HB := n0_; clear n0_; (try clear hb); (try clear hb2); (try clear hk); (try clear hi)) | (go_at_call 26; (with_reducible refine (path_More.calls a1 a0 t126 _ A9.out).mono ?_); rintro e w15 ⟨rfl, hb⟩; have n0_ := Aside0.mk (below_step (by repeat (first | (with_reducible first | exact HB.out | apply below_alloc | apply pw_below_drewN | apply below_drew1) | exact HB.out)) hb); clear HB; have HB := n0_; clear n0_; (try clear hb); (try clear hb2); (try clear hk); (try clear hi)) | (go_at_call 27; (with_reducible refine (ciboriumref15_More.calls k a1 a0 t127 _ A10.out).mono ?_); rintro e w16 ⟨rfl, hb⟩; have n0_ := Aside0.mk (below_step (by repeat (first | (with_reducible first | exact HB.out | apply below_alloc | apply pw_below_drewN | apply below_drew1) | exact HB.out)) hb); clear HB; have HB := n0_; clear n0_; (try clear hb); (try clear hb2); (try clear hk); (try clear hi)) | (go_at_call 11; (with_reducible refine (ciboriumlaw15_works.calls k  t128 _ A12.out).mono ?_); rintro e w17 ⟨rfl, hb⟩; have n0_ := Aside0.mk (below_step (by repeat (first | (with_reducible first | exact HB.out | apply below_alloc | apply pw_below_drewN | apply below_drew1) | exact HB.out)) hb); clear HB; have HB := n0_; clear n0_; (try clear hb); (try clear hb2); (try clear hk); (try clear hi)))
        go_ret
        exact ⟨by first | rfl | (simp [errW_none, errW_some] <;> rfl) | (simp [*, errW_none, errW_some] <;> rfl), by repeat (first | (with_reducible first | exact HB.out | apply below_alloc | apply pw_below_drewN | apply below_drew1) | exact HB.out)⟩
      · rw [if_neg c11] at H
        have c11b0 : (t126 == t127) = false := beq_eq_false_iff_ne.mpr c11
        have c11b1 : (t126 != t127) = true := bne_iff_ne.mpr c11
        obtain rfl := Option.some.inj H
        go_enter Tryd.func8, Tryd.ntmps8
        go_wp2_with (first | ((with_reducible refine gate_callee (f := 26) rfl ?_); refine goesL_ (some 14) rfl rfl Tryd.func26 (by kernel_rfl) rfl #[.string a0, .string a1] rfl (by (try simp only [List.map_toArray, List.map_cons, List.map_nil]); first | done | rfl | (simp only [List.length_drop, List.length_take]; rfl)) ?_; (with_reducible refine (path_More.calls a0 a1 t124 _ A6.out).mono ?_); rintro e w18 ⟨rfl, hb⟩; refine ⟨_, rfl, ?_⟩; have n0_ := Aside0.mk (below_step (by repeat (first | (with_reducible first | exact HB.out | apply below_alloc | apply pw_below_drewN | apply below_drew1) | exact HB.out)) hb); clear HB; have HB := n0_; clear n0_; (try clear hb); (try clear hb2); (try clear hk); (try clear hi)) | ((with_reducible refine gate_callee (f := 27) rfl ?_); refine goesL_ (some 17) rfl rfl Tryd.func27 (by kernel_rfl) rfl #[.string a0, .string a1] rfl (by (try simp only [List.map_toArray, List.map_cons, List.map_nil]); first | done | rfl | (simp only [List.length_drop, List.length_take]; rfl)) ?_; (with_reducible refine (ciboriumref15_More.calls k a0 a1 t125 _ A7.out).mono ?_); rintro e w19 ⟨rfl, hb⟩; refine ⟨_, rfl, ?_⟩; have n0_ := Aside0.mk (below_step (by repeat (first | (with_reducible first | exact HB.out | apply below_alloc | apply pw_below_drewN | apply below_drew1) | exact HB.out)) hb); clear HB; have HB := n0_; clear n0_; (try clear hb); (try clear hb2); (try clear hk); (try clear hi)) | (go_at_call 26; (with_reducible refine (path_More.calls a1 a0 t126 _ A9.out).mono ?_); rintro e w20 ⟨rfl, hb⟩; have n0_ := Aside0.mk (below_step (by repeat (first | (with_reducible first | exact HB.out | apply below_alloc | apply pw_below_drewN | apply below_drew1) | exact HB.out)) hb); clear HB; have HB := n0_; clear n0_; (try clear hb); (try clear hb2); (try clear hk); (try clear hi)) | (go_at_call 27; (with_reducible refine (ciboriumref15_More.calls k a1 a0 t127 _ A10.out).mono ?_); rintro e w21 ⟨rfl, hb⟩; have n0_ := Aside0.mk (below_step (by repeat (first | (with_reducible first | exact HB.out | apply below_alloc | apply pw_below_drewN | apply below_drew1) | exact HB.out)) hb); clear HB; have HB := n0_; clear n0_; (try clear hb); (try clear hb2); (try clear hk); (try clear hi)))
        go_ret
        exact ⟨by first | rfl | (simp [errW_none, errW_some] <;> rfl) | (simp [*, errW_none, errW_some] <;> rfl), by repeat (first | (with_reducible first | exact HB.out | apply below_alloc | apply pw_below_drewN | apply below_drew1) | exact HB.out)⟩
    · rw [if_neg c8] at H
      have c8b0 : (t124 == t125) = false := beq_eq_false_iff_ne.mpr c8
      have c8b1 : (t124 != t125) = true := bne_iff_ne.mpr c8
      obtain rfl := Option.some.inj H
      go_enter Tryd.func8, Tryd.ntmps8
      go_wp2_with (first | ((with_reducible refine gate_callee (f := 26) rfl ?_); refine goesL_ (some 14) rfl rfl Tryd.func26 (by kernel_rfl) rfl #[.string a0, .string a1] rfl (by (try simp only [List.map_toArray, List.map_cons, List.map_nil]); first | done | rfl | (simp only [List.length_drop, List.length_take]; rfl)) ?_; (with_reducible refine (path_More.calls a0 a1 t124 _ A6.out).mono ?_); rintro e w22 ⟨rfl, hb⟩; refine ⟨_, rfl, ?_⟩; have n0_ := Aside0.mk (below_step (by repeat (first | (with_reducible first | exact HB.out | apply below_alloc | apply pw_below_drewN | apply below_drew1) | exact HB.out)) hb); clear HB; have HB := n0_; clear n0_; (try clear hb); (try clear hb2); (try clear hk); (try clear hi)) | ((with_reducible refine gate_callee (f := 27) rfl ?_); refine goesL_ (some 17) rfl rfl Tryd.func27 (by kernel_rfl) rfl #[.string a0, .string a1] rfl (by (try simp only [List.map_toArray, List.map_cons, List.map_nil]); first | done | rfl | (simp only [List.length_drop, List.length_take]; rfl)) ?_; (with_reducible refine (ciboriumref15_More.calls k a0 a1 t125 _ A7.out).mono ?_); rintro e w23 ⟨rfl, hb⟩; refine ⟨_, rfl, ?_⟩; have n0_ := Aside0.mk (below_step (by repeat (first | (with_reducible first | exact HB.out | apply below_alloc | apply pw_below_drewN | apply below_drew1) | exact HB.out)) hb); clear HB; have HB := n0_; clear n0_; (try clear hb); (try clear hb2); (try clear hk); (try clear hi)))
      go_ret
      exact ⟨by first | rfl | (simp [errW_none, errW_some] <;> rfl) | (simp [*, errW_none, errW_some] <;> rfl), by repeat (first | (with_reducible first | exact HB.out | apply below_alloc | apply pw_below_drewN | apply below_drew1) | exact HB.out)⟩

/-- THE ONE PURE STATEMENT of ciboriumlaw15_PathMore: yours. -/
def ciboriumlaw15_PathMore.Pure : Prop := ∀ (a0 : ByteArray) (a1 : ByteArray), a0.size ≤ 140737488351232 → a1.size ≤ 140737488351232 → ∃ k, ciboriumlaw15_PathMore.f k a0 a1 = some true
theorem ciboriumlaw15_PathMore.walk (P : ciboriumlaw15_PathMore.Pure) (a0 : ByteArray) (a1 : ByteArray) (w : World) (w0 : a0.size ≤ 140737488351232) (w1 : a1.size ≤ 140737488351232) :
    Calls Tryd.prog 8 #[.string a0, .string a1] w fun e w' => e = .returned (.bool true) ∧ Below w.heap.size w w' := by
  obtain ⟨k, h⟩ := P a0 a1 w0 w1
  refine (ciboriumlaw15_PathMore.calls k a0 a1 true w h).mono ?_
  rintro e w' ⟨rfl, hd⟩
  exact ⟨rfl, hd⟩

end Go.Proofs.YtilhpgjohpekkaaDoor.PO
