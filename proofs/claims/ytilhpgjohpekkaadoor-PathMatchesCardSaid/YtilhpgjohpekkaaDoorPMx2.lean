/- What is said here: what the Go functions named below answer, each as a plain function with the proof that its call comes to that answer; written by a program out of the translation. No condition. -/
import Derived.Test.YtilhpgjohpekkaaDoorPMx0
import Derived.Test.YtilhpgjohpekkaaDoorPMx1
namespace Go.Proofs.YtilhpgjohpekkaaDoor.PM
open Go.RowKit Go.Proofs.YtilhpgjohpekkaaDoorW.PrintWords Go.Proofs.YtilhpgjohpekkaaDoorW.PrintLast Go.Proofs.YtilhpgjohpekkaaDoorW.PrintMore
attribute [local go_sem] max2_int min2_int max_two min_two max_three min_three max_four min_four   -- for this text's walks alone
set_option linter.unusedVariables false
set_option linter.unusedSimpArgs false

/-! ### ciboriumref15_Match: function 20 -/
mutual
def ciboriumref15_Match.j0 : Nat → ByteArray → ByteArray → Bool → Option (Bool)
  | 0, _, _, _ => none
  | k + 1, x0, x1, x20 => if x20 = true then (some false) else ((ciboriumref15_parts.f k x0).bind fun t103 => ((ciboriumref15_parts.f k x1).bind fun t106 => (if 0 ≤ (wrap64 ((t103.length : Int) - 1)) then (if (wrap64 ((t103.length : Int) - 1)) < (t103.length : Int) then ((ciboriumref15_Star.f k (rdOf ByteArray.empty t103 (wrap64 ((t103.length : Int) - 1)))).bind fun t110 => (if t110 = true then (ciboriumref15_Match.j1 k t103 t106 (wrap64 ((t103.length : Int) - 1)) t110) else (ciboriumref15_Match.j1 k t103 t106 (t103.length : Int) t110))) else (none)) else (none))))
def ciboriumref15_Match.j1 : Nat → List ByteArray → List ByteArray → Int → Bool → Option (Bool)
  | 0, _, _, _, _ => none
  | k + 1, x5, x6, x7, x8 => if (x6.length : Int) < x7 then (ciboriumref15_Match.j2 k x5 x6 x7 x8 true) else (if x8 = true then (ciboriumref15_Match.j2 k x5 x6 x7 x8 (decide ((x6.length : Int) < (wrap64 (x7 + 1))))) else (if (x6.length : Int) = x7 then (ciboriumref15_Match.j2 k x5 x6 x7 x8 false) else (ciboriumref15_Match.j2 k x5 x6 x7 x8 true)))
def ciboriumref15_Match.j2 : Nat → List ByteArray → List ByteArray → Int → Bool → Bool → Option (Bool)
  | 0, _, _, _, _, _ => none
  | k + 1, x5, x6, x7, x8, x59 => if x59 = true then (some false) else (ciboriumref15_Match.l0 k x5 x6 x7 x8 0)
def ciboriumref15_Match.l0 : Nat → List ByteArray → List ByteArray → Int → Bool → Int → Option (Bool)
  | 0, _, _, _, _, _ => none
  | k + 1, x5, x6, x7, x8, x9 => if x9 < x7 then (if 0 ≤ x9 then (if x9 < (x5.length : Int) then (if (rdOf ByteArray.empty x5 x9).toList = ([43] : List UInt8) then (ciboriumref15_Match.l0 k x5 x6 x7 x8 (wrap64 (x9 + 1))) else (if x9 < (x6.length : Int) then (if (rdOf ByteArray.empty x5 x9).toList = (rdOf ByteArray.empty x6 x9).toList then (ciboriumref15_Match.l0 k x5 x6 x7 x8 (wrap64 (x9 + 1))) else (some false)) else (none))) else (none)) else (none)) else (if x8 = true then (if 0 ≤ x7 then (if x7 < (x6.length : Int) then (ciboriumref15_Match.l1 k x5 x6 x7 (rdOf ByteArray.empty x6 x7) (wrap64 (x7 + 1))) else (none)) else (none)) else (some true))
def ciboriumref15_Match.l1 : Nat → List ByteArray → List ByteArray → Int → ByteArray → Int → Option (Bool)
  | 0, _, _, _, _, _ => none
  | k + 1, x5, x6, x7, x10, x11 => if x11 < (x6.length : Int) then (if x10.size + 1 ≤ 9223372036854775807 then (if 0 ≤ x11 then (if (x10 ++ (⟨#[47]⟩ : ByteArray)).size + (rdOf ByteArray.empty x6 x11).size ≤ 9223372036854775807 then (ciboriumref15_Match.l1 k x5 x6 x7 ((x10 ++ (⟨#[47]⟩ : ByteArray)) ++ (rdOf ByteArray.empty x6 x11)) (wrap64 (x11 + 1))) else (none)) else (none)) else (none)) else (if 0 ≤ x7 then (if x7 < (x5.length : Int) then (if 0 ≤ (wrap64 (((rdOf ByteArray.empty x5 x7).size : Int) - 1)) then (if (wrap64 (((rdOf ByteArray.empty x5 x7).size : Int) - 1)) ≤ ((rdOf ByteArray.empty x5 x7).size : Int) then (if (x10.size : Int) ≥ (((rdOf ByteArray.empty x5 x7).extract 0 ((wrap64 (((rdOf ByteArray.empty x5 x7).size : Int) - 1)) : Int).toNat).size : Int) then (if 0 ≤ (((rdOf ByteArray.empty x5 x7).extract 0 ((wrap64 (((rdOf ByteArray.empty x5 x7).size : Int) - 1)) : Int).toNat).size : Int) then (if (((rdOf ByteArray.empty x5 x7).extract 0 ((wrap64 (((rdOf ByteArray.empty x5 x7).size : Int) - 1)) : Int).toNat).size : Int) ≤ (x10.size : Int) then (some ((x10.extract 0 ((((rdOf ByteArray.empty x5 x7).extract 0 ((wrap64 (((rdOf ByteArray.empty x5 x7).size : Int) - 1)) : Int).toNat).size : Int) : Int).toNat).toList == ((rdOf ByteArray.empty x5 x7).extract 0 ((wrap64 (((rdOf ByteArray.empty x5 x7).size : Int) - 1)) : Int).toNat).toList)) else (none)) else (none)) else (some false)) else (none)) else (none)) else (none)) else (none))
end
def ciboriumref15_Match.f (k : Nat) (a0 : ByteArray) (a1 : ByteArray) : Option (Bool) := (ciboriumref15_CheckPattern.f k a0).bind fun t101 => (if t101 = 0 then ((ciboriumref15_Check.f k a1).bind fun t102 => (ciboriumref15_Match.j0 k a0 a1 (t102 != 0))) else (ciboriumref15_Match.j0 k a0 a1 true))
theorem ciboriumref15_Match.mono_l : ∀ k, (∀ y0 y1 y2, LeO (ciboriumref15_Match.j0 k y0 y1 y2) (ciboriumref15_Match.j0 (k + 1) y0 y1 y2)) ∧ (∀ y0 y1 y2 y3, LeO (ciboriumref15_Match.j1 k y0 y1 y2 y3) (ciboriumref15_Match.j1 (k + 1) y0 y1 y2 y3)) ∧ (∀ y0 y1 y2 y3 y4, LeO (ciboriumref15_Match.j2 k y0 y1 y2 y3 y4) (ciboriumref15_Match.j2 (k + 1) y0 y1 y2 y3 y4)) ∧ (∀ y0 y1 y2 y3 y4, LeO (ciboriumref15_Match.l0 k y0 y1 y2 y3 y4) (ciboriumref15_Match.l0 (k + 1) y0 y1 y2 y3 y4)) ∧ (∀ y0 y1 y2 y3 y4, LeO (ciboriumref15_Match.l1 k y0 y1 y2 y3 y4) (ciboriumref15_Match.l1 (k + 1) y0 y1 y2 y3 y4))
  | 0 => ⟨fun _ _ _ r h => by simp [ciboriumref15_Match.j0] at h, fun _ _ _ _ r h => by simp [ciboriumref15_Match.j1] at h, fun _ _ _ _ _ r h => by simp [ciboriumref15_Match.j2] at h, fun _ _ _ _ _ r h => by simp [ciboriumref15_Match.l0] at h, fun _ _ _ _ _ r h => by simp [ciboriumref15_Match.l1] at h⟩
  | k + 1 => by
    obtain ⟨ih0, ih1, ih2, ih3, ih4⟩ := ciboriumref15_Match.mono_l k
    refine ⟨?_, ?_, ?_, ?_, ?_⟩
    · intro y0 y1 y2
      unfold ciboriumref15_Match.j0
      repeat' first
      | (with_reducible exact ih0 _ _ _)
      | (with_reducible exact ih1 _ _ _ _)
      | (with_reducible exact ih2 _ _ _ _ _)
      | (with_reducible exact ih3 _ _ _ _ _)
      | (with_reducible exact ih4 _ _ _ _ _)
      | (with_reducible exact ciboriumref15_Check.mono _ _)
      | (with_reducible exact ciboriumref15_CheckPattern.mono _ _)
      | (with_reducible exact ciboriumref15_Star.mono _ _)
      | (with_reducible exact ciboriumref15_parts.mono _ _)
      | (with_reducible exact LeO.refl _)
      | (with_reducible exact LeO.none _)
      | (with_reducible refine LeO.ite ?_ ?_)
      | (with_reducible refine LeO.bind ?_ (fun _ => ?_))
      | exact ih0 _ _ _
      | exact ih1 _ _ _ _
      | exact ih2 _ _ _ _ _
      | exact ih3 _ _ _ _ _
      | exact ih4 _ _ _ _ _
      | exact ciboriumref15_Check.mono _ _
      | exact ciboriumref15_CheckPattern.mono _ _
      | exact ciboriumref15_Star.mono _ _
      | exact ciboriumref15_parts.mono _ _
      | exact LeO.none _
      | refine LeO.ite ?_ ?_
      | refine LeO.bind ?_ (fun _ => ?_)
    · intro y0 y1 y2 y3
      unfold ciboriumref15_Match.j1
      repeat' first
      | (with_reducible exact ih0 _ _ _)
      | (with_reducible exact ih1 _ _ _ _)
      | (with_reducible exact ih2 _ _ _ _ _)
      | (with_reducible exact ih3 _ _ _ _ _)
      | (with_reducible exact ih4 _ _ _ _ _)
      | (with_reducible exact ciboriumref15_Check.mono _ _)
      | (with_reducible exact ciboriumref15_CheckPattern.mono _ _)
      | (with_reducible exact ciboriumref15_Star.mono _ _)
      | (with_reducible exact ciboriumref15_parts.mono _ _)
      | (with_reducible exact LeO.refl _)
      | (with_reducible exact LeO.none _)
      | (with_reducible refine LeO.ite ?_ ?_)
      | (with_reducible refine LeO.bind ?_ (fun _ => ?_))
      | exact ih0 _ _ _
      | exact ih1 _ _ _ _
      | exact ih2 _ _ _ _ _
      | exact ih3 _ _ _ _ _
      | exact ih4 _ _ _ _ _
      | exact ciboriumref15_Check.mono _ _
      | exact ciboriumref15_CheckPattern.mono _ _
      | exact ciboriumref15_Star.mono _ _
      | exact ciboriumref15_parts.mono _ _
      | exact LeO.none _
      | refine LeO.ite ?_ ?_
      | refine LeO.bind ?_ (fun _ => ?_)
    · intro y0 y1 y2 y3 y4
      unfold ciboriumref15_Match.j2
      repeat' first
      | (with_reducible exact ih0 _ _ _)
      | (with_reducible exact ih1 _ _ _ _)
      | (with_reducible exact ih2 _ _ _ _ _)
      | (with_reducible exact ih3 _ _ _ _ _)
      | (with_reducible exact ih4 _ _ _ _ _)
      | (with_reducible exact ciboriumref15_Check.mono _ _)
      | (with_reducible exact ciboriumref15_CheckPattern.mono _ _)
      | (with_reducible exact ciboriumref15_Star.mono _ _)
      | (with_reducible exact ciboriumref15_parts.mono _ _)
      | (with_reducible exact LeO.refl _)
      | (with_reducible exact LeO.none _)
      | (with_reducible refine LeO.ite ?_ ?_)
      | (with_reducible refine LeO.bind ?_ (fun _ => ?_))
      | exact ih0 _ _ _
      | exact ih1 _ _ _ _
      | exact ih2 _ _ _ _ _
      | exact ih3 _ _ _ _ _
      | exact ih4 _ _ _ _ _
      | exact ciboriumref15_Check.mono _ _
      | exact ciboriumref15_CheckPattern.mono _ _
      | exact ciboriumref15_Star.mono _ _
      | exact ciboriumref15_parts.mono _ _
      | exact LeO.none _
      | refine LeO.ite ?_ ?_
      | refine LeO.bind ?_ (fun _ => ?_)
    · intro y0 y1 y2 y3 y4
      unfold ciboriumref15_Match.l0
      repeat' first
      | (with_reducible exact ih0 _ _ _)
      | (with_reducible exact ih1 _ _ _ _)
      | (with_reducible exact ih2 _ _ _ _ _)
      | (with_reducible exact ih3 _ _ _ _ _)
      | (with_reducible exact ih4 _ _ _ _ _)
      | (with_reducible exact ciboriumref15_Check.mono _ _)
      | (with_reducible exact ciboriumref15_CheckPattern.mono _ _)
      | (with_reducible exact ciboriumref15_Star.mono _ _)
      | (with_reducible exact ciboriumref15_parts.mono _ _)
      | (with_reducible exact LeO.refl _)
      | (with_reducible exact LeO.none _)
      | (with_reducible refine LeO.ite ?_ ?_)
      | (with_reducible refine LeO.bind ?_ (fun _ => ?_))
      | exact ih0 _ _ _
      | exact ih1 _ _ _ _
      | exact ih2 _ _ _ _ _
      | exact ih3 _ _ _ _ _
      | exact ih4 _ _ _ _ _
      | exact ciboriumref15_Check.mono _ _
      | exact ciboriumref15_CheckPattern.mono _ _
      | exact ciboriumref15_Star.mono _ _
      | exact ciboriumref15_parts.mono _ _
      | exact LeO.none _
      | refine LeO.ite ?_ ?_
      | refine LeO.bind ?_ (fun _ => ?_)
    · intro y0 y1 y2 y3 y4
      unfold ciboriumref15_Match.l1
      repeat' first
      | (with_reducible exact ih0 _ _ _)
      | (with_reducible exact ih1 _ _ _ _)
      | (with_reducible exact ih2 _ _ _ _ _)
      | (with_reducible exact ih3 _ _ _ _ _)
      | (with_reducible exact ih4 _ _ _ _ _)
      | (with_reducible exact ciboriumref15_Check.mono _ _)
      | (with_reducible exact ciboriumref15_CheckPattern.mono _ _)
      | (with_reducible exact ciboriumref15_Star.mono _ _)
      | (with_reducible exact ciboriumref15_parts.mono _ _)
      | (with_reducible exact LeO.refl _)
      | (with_reducible exact LeO.none _)
      | (with_reducible refine LeO.ite ?_ ?_)
      | (with_reducible refine LeO.bind ?_ (fun _ => ?_))
      | exact ih0 _ _ _
      | exact ih1 _ _ _ _
      | exact ih2 _ _ _ _ _
      | exact ih3 _ _ _ _ _
      | exact ih4 _ _ _ _ _
      | exact ciboriumref15_Check.mono _ _
      | exact ciboriumref15_CheckPattern.mono _ _
      | exact ciboriumref15_Star.mono _ _
      | exact ciboriumref15_parts.mono _ _
      | exact LeO.none _
      | refine LeO.ite ?_ ?_
      | refine LeO.bind ?_ (fun _ => ?_)
theorem ciboriumref15_Match.mono : ∀ a0 a1 k, LeO (ciboriumref15_Match.f k a0 a1) (ciboriumref15_Match.f (k + 1) a0 a1) := by
  intro a0 a1 k
  obtain ⟨ih0, ih1, ih2, ih3, ih4⟩ := ciboriumref15_Match.mono_l k
  unfold ciboriumref15_Match.f
  repeat' first
      | (with_reducible exact ih0 _ _ _)
      | (with_reducible exact ih1 _ _ _ _)
      | (with_reducible exact ih2 _ _ _ _ _)
      | (with_reducible exact ih3 _ _ _ _ _)
      | (with_reducible exact ih4 _ _ _ _ _)
      | (with_reducible exact ciboriumref15_Check.mono _ _)
      | (with_reducible exact ciboriumref15_CheckPattern.mono _ _)
      | (with_reducible exact ciboriumref15_Star.mono _ _)
      | (with_reducible exact ciboriumref15_parts.mono _ _)
      | (with_reducible exact LeO.refl _)
      | (with_reducible exact LeO.none _)
      | (with_reducible refine LeO.ite ?_ ?_)
      | (with_reducible refine LeO.bind ?_ (fun _ => ?_))
      | exact ih0 _ _ _
      | exact ih1 _ _ _ _
      | exact ih2 _ _ _ _ _
      | exact ih3 _ _ _ _ _
      | exact ih4 _ _ _ _ _
      | exact ciboriumref15_Check.mono _ _
      | exact ciboriumref15_CheckPattern.mono _ _
      | exact ciboriumref15_Star.mono _ _
      | exact ciboriumref15_parts.mono _ _
      | exact LeO.none _
      | refine LeO.ite ?_ ?_
      | refine LeO.bind ?_ (fun _ => ?_)
set_option maxHeartbeats 8000000 in
set_option maxRecDepth 100000 in
theorem ciboriumref15_Match.calls (k : Nat) (a0 : ByteArray) (a1 : ByteArray) (r : Bool) (w : World) (h : ciboriumref15_Match.f k a0 a1 = some r) :
    Calls Tryd.prog 20 #[.string a0, .string a1] w fun e w' => e = .returned (.bool r) ∧ Below w.heap.size w w' := by
  have HB := Aside0.mk (Below.refl w.heap.size w)
  have H : ((ciboriumref15_CheckPattern.f k a0).bind fun t101 => (if t101 = 0 then ((ciboriumref15_Check.f k a1).bind fun t102 => (ciboriumref15_Match.j0 k a0 a1 (t102 != 0))) else (ciboriumref15_Match.j0 k a0 a1 true))) = some r := h
  clear h
  have HC3 := Aside0.mk H
  clear H
  go_enter Tryd.func20, Tryd.ntmps20
  go_upto_region 1 with (fail)
  repeat (go_quiet (fail); go_upto_region 1 with (fail))
  go_cut [20] (fun v20 wc => ∃ (kq : Nat) (x20_2 : Bool), v20 = .bool x20_2 ∧ Aside0 (ciboriumref15_Match.j0 kq a0 a1 x20_2 = some r) ∧ Aside0 (kq ≤ k) ∧ Aside0 (Below w.heap.size w wc))
  case first =>
    have H := HC3.out
    clear HC3
    replace H := Option.bind_eq_some_iff.mp H
    obtain ⟨t101, A40, H⟩ := H
    replace H : (if t101 = 0 then ((ciboriumref15_Check.f k a1).bind fun t102 => (ciboriumref15_Match.j0 k a0 a1 (t102 != 0))) else (ciboriumref15_Match.j0 k a0 a1 true)) = some r := H
    have A4 := Aside0.mk A40
    clear A40
    by_cases c5 : t101 = 0
    · rw [if_pos c5] at H
      have c5b0 : (t101 == 0) = true := beq_iff_eq.mpr c5
      have c5b1 : (t101 != 0) = false := bne_eq_false_iff_eq.mpr c5
      clear c5
      (first | rw [c5b0] | (simp only [i64_w, i32_w]; rw [c5b0]) | skip)
      replace H := Option.bind_eq_some_iff.mp H
      obtain ⟨t102, A60, H⟩ := H
      replace H : (ciboriumref15_Match.j0 k a0 a1 (t102 != 0)) = some r := H
      have A6 := Aside0.mk A60
      clear A60
      have H' := Aside0.mk H
      clear H
      go_wp2_with (first | (go_at_call 15; (with_reducible refine (ciboriumref15_CheckPattern.calls k a0 t101 _ A4.out).mono ?_); rintro e w7 ⟨rfl, hb⟩; have n0_ := Aside0.mk (below_step (by repeat (first | (with_reducible first | exact HB.out | apply below_alloc | apply pw_below_drewN | apply below_drew1) | exact HB.out)) hb); clear HB; have HB := n0_; clear n0_; (try clear hb); (try clear hb2); (try clear hk); (try clear hi)) | (go_at_call 13; (with_reducible refine (ciboriumref15_Check.calls k a1 t102 _ A6.out).mono ?_); rintro e w8 ⟨rfl, hb⟩; have n0_ := Aside0.mk (below_step (by repeat (first | (with_reducible first | exact HB.out | apply below_alloc | apply pw_below_drewN | apply below_drew1) | exact HB.out)) hb); clear HB; have HB := n0_; clear n0_; (try clear hb); (try clear hb2); (try clear hk); (try clear hi)))
      repeat (go_quiet (first | (go_at_call 15; (with_reducible refine (ciboriumref15_CheckPattern.calls k a0 t101 _ A4.out).mono ?_); rintro e w7 ⟨rfl, hb⟩; have n0_ := Aside0.mk (below_step (by repeat (first | (with_reducible first | exact HB.out | apply below_alloc | apply pw_below_drewN | apply below_drew1) | exact HB.out)) hb); clear HB; have HB := n0_; clear n0_; (try clear hb); (try clear hb2); (try clear hk); (try clear hi)) | (go_at_call 13; (with_reducible refine (ciboriumref15_Check.calls k a1 t102 _ A6.out).mono ?_); rintro e w8 ⟨rfl, hb⟩; have n0_ := Aside0.mk (below_step (by repeat (first | (with_reducible first | exact HB.out | apply below_alloc | apply pw_below_drewN | apply below_drew1) | exact HB.out)) hb); clear HB; have HB := n0_; clear n0_; (try clear hb); (try clear hb2); (try clear hk); (try clear hi))); try go_wp2_with (first | (go_at_call 15; (with_reducible refine (ciboriumref15_CheckPattern.calls k a0 t101 _ A4.out).mono ?_); rintro e w7 ⟨rfl, hb⟩; have n0_ := Aside0.mk (below_step (by repeat (first | (with_reducible first | exact HB.out | apply below_alloc | apply pw_below_drewN | apply below_drew1) | exact HB.out)) hb); clear HB; have HB := n0_; clear n0_; (try clear hb); (try clear hb2); (try clear hk); (try clear hi)) | (go_at_call 13; (with_reducible refine (ciboriumref15_Check.calls k a1 t102 _ A6.out).mono ?_); rintro e w8 ⟨rfl, hb⟩; have n0_ := Aside0.mk (below_step (by repeat (first | (with_reducible first | exact HB.out | apply below_alloc | apply pw_below_drewN | apply below_drew1) | exact HB.out)) hb); clear HB; have HB := n0_; clear n0_; (try clear hb); (try clear hb2); (try clear hk); (try clear hi))))
      go_meet
      case rel => exact ⟨_, ((t102 != 0)), (by first | rfl | (simp; done) | (simp [*]; done)), H', ⟨by first | omega | exact Nat.le_refl _⟩, ⟨by repeat (first | (with_reducible first | exact HB.out | apply below_alloc | apply pw_below_drewN | apply below_drew1) | exact HB.out)⟩⟩
    · rw [if_neg c5] at H
      have c5b0 : (t101 == 0) = false := beq_eq_false_iff_ne.mpr c5
      have c5b1 : (t101 != 0) = true := bne_iff_ne.mpr c5
      (first | rw [c5b0] | (simp only [i64_w, i32_w]; rw [c5b0]) | skip)
      have H' := Aside0.mk H
      clear H
      go_wp2_with (first | (go_at_call 15; (with_reducible refine (ciboriumref15_CheckPattern.calls k a0 t101 _ A4.out).mono ?_); rintro e w9 ⟨rfl, hb⟩; have n0_ := Aside0.mk (below_step (by repeat (first | (with_reducible first | exact HB.out | apply below_alloc | apply pw_below_drewN | apply below_drew1) | exact HB.out)) hb); clear HB; have HB := n0_; clear n0_; (try clear hb); (try clear hb2); (try clear hk); (try clear hi)))
      repeat (go_quiet (first | (go_at_call 15; (with_reducible refine (ciboriumref15_CheckPattern.calls k a0 t101 _ A4.out).mono ?_); rintro e w9 ⟨rfl, hb⟩; have n0_ := Aside0.mk (below_step (by repeat (first | (with_reducible first | exact HB.out | apply below_alloc | apply pw_below_drewN | apply below_drew1) | exact HB.out)) hb); clear HB; have HB := n0_; clear n0_; (try clear hb); (try clear hb2); (try clear hk); (try clear hi))); try go_wp2_with (first | (go_at_call 15; (with_reducible refine (ciboriumref15_CheckPattern.calls k a0 t101 _ A4.out).mono ?_); rintro e w9 ⟨rfl, hb⟩; have n0_ := Aside0.mk (below_step (by repeat (first | (with_reducible first | exact HB.out | apply below_alloc | apply pw_below_drewN | apply below_drew1) | exact HB.out)) hb); clear HB; have HB := n0_; clear n0_; (try clear hb); (try clear hb2); (try clear hk); (try clear hi))))
      go_meet
      case rel => exact ⟨_, (true), (by first | rfl | (simp; done) | (simp [*]; done)), H', ⟨by first | omega | exact Nat.le_refl _⟩, ⟨by repeat (first | (with_reducible first | exact HB.out | apply below_alloc | apply pw_below_drewN | apply below_drew1) | exact HB.out)⟩⟩
  case rest =>
    clear HC3
    try clear c2
    try clear p2
    try clear c5
    try clear c5b0
    try clear c5b1
    obtain ⟨kq, x20_2, rfl, HA, HJ2, HB⟩ := hcut
    cases kq with
    | zero => exact absurd HA.out (by simp [ciboriumref15_Match.j0])
    | succ kj2 =>
      have H := HA.out
      clear HA
      simp only [ciboriumref15_Match.j0] at H
      by_cases c10 : x20_2 = true
      · subst c10
        have H1 : (some false) = some r := by rw [if_pos rfl] at H; exact H
        clear H
        have H := H1
        clear H1
        obtain rfl := Option.some.inj H
        go_wp2
        repeat (go_quiet (fail); try go_wp2)
        go_ret
        exact ⟨by first | rfl | (simp [errW_none, errW_some] <;> rfl) | (simp [*, errW_none, errW_some] <;> rfl), by repeat (first | (with_reducible first | exact HB.out | apply below_alloc | apply pw_below_drewN | apply below_drew1) | exact HB.out)⟩
      · replace c10 := Bool.eq_false_iff.mpr c10
        subst c10
        have H1 : ((ciboriumref15_parts.f kj2 a0).bind fun t103 => ((ciboriumref15_parts.f kj2 a1).bind fun t106 => (if 0 ≤ (wrap64 ((t103.length : Int) - 1)) then (if (wrap64 ((t103.length : Int) - 1)) < (t103.length : Int) then ((ciboriumref15_Star.f kj2 (rdOf ByteArray.empty t103 (wrap64 ((t103.length : Int) - 1)))).bind fun t110 => (if t110 = true then (ciboriumref15_Match.j1 kj2 t103 t106 (wrap64 ((t103.length : Int) - 1)) t110) else (ciboriumref15_Match.j1 kj2 t103 t106 (t103.length : Int) t110))) else (none)) else (none)))) = some r := by rw [if_neg (show ¬ (false = true) by decide)] at H; exact H
        clear H
        have H := H1
        clear H1
        replace H := Option.bind_eq_some_iff.mp H
        obtain ⟨t103, A110, H⟩ := H
        replace H : ((ciboriumref15_parts.f kj2 a1).bind fun t106 => (if 0 ≤ (wrap64 ((t103.length : Int) - 1)) then (if (wrap64 ((t103.length : Int) - 1)) < (t103.length : Int) then ((ciboriumref15_Star.f kj2 (rdOf ByteArray.empty t103 (wrap64 ((t103.length : Int) - 1)))).bind fun t110 => (if t110 = true then (ciboriumref15_Match.j1 kj2 t103 t106 (wrap64 ((t103.length : Int) - 1)) t110) else (ciboriumref15_Match.j1 kj2 t103 t106 (t103.length : Int) t110))) else (none)) else (none))) = some r := H
        have A11 := Aside0.mk A110
        clear A110
        replace H := Option.bind_eq_some_iff.mp H
        obtain ⟨t106, A120, H⟩ := H
        replace H : (if 0 ≤ (wrap64 ((t103.length : Int) - 1)) then (if (wrap64 ((t103.length : Int) - 1)) < (t103.length : Int) then ((ciboriumref15_Star.f kj2 (rdOf ByteArray.empty t103 (wrap64 ((t103.length : Int) - 1)))).bind fun t110 => (if t110 = true then (ciboriumref15_Match.j1 kj2 t103 t106 (wrap64 ((t103.length : Int) - 1)) t110) else (ciboriumref15_Match.j1 kj2 t103 t106 (t103.length : Int) t110))) else (none)) else (none)) = some r := H
        have A12 := Aside0.mk A120
        clear A120
        obtain ⟨ji13, hji13⟩ : ∃ j_ : Int, (wrap64 ((t103.length : Int) - 1)) = j_ := ⟨_, rfl⟩
        replace H : (if 0 ≤ (ji13) then (if (ji13) < (t103.length : Int) then ((ciboriumref15_Star.f kj2 (rdOf ByteArray.empty t103 (ji13))).bind fun t110 => (if t110 = true then (ciboriumref15_Match.j1 kj2 t103 t106 ji13 t110) else (ciboriumref15_Match.j1 kj2 t103 t106 (t103.length : Int) t110))) else (none)) else (none)) = some r := by first | (rw [hji13] at H; exact H) | (simp only [hji13] at H ⊢; exact H)
        (try rw [hji13] at A11)
        (try rw [hji13] at A12)
        have hji13w : (IntKind.i64.wrap ((t103.length : Int) - 1)) = ji13 := (i64_w _).trans hji13
        by_cases c14 : 0 ≤ (ji13)
        · rw [if_pos c14] at H
          have c14b0 : decide (0 ≤ (ji13)) = true := decide_eq_true c14
          clear c14
          by_cases c15 : (ji13) < (t103.length : Int)
          · rw [if_pos c15] at H
            have c15b0 : decide ((ji13) < (t103.length : Int)) = true := decide_eq_true c15
            clear c15
            replace H := Option.bind_eq_some_iff.mp H
            obtain ⟨t110, A160, H⟩ := H
            replace H : (if t110 = true then (ciboriumref15_Match.j1 kj2 t103 t106 ji13 t110) else (ciboriumref15_Match.j1 kj2 t103 t106 (t103.length : Int) t110)) = some r := H
            have A16 := Aside0.mk A160
            clear A160
            have HC17 := Aside0.mk H
            clear H
            go_upto_if 33 with (first | (go_at_call 30; (with_reducible refine (ciboriumref15_parts.calls kj2 a0 t103 _ A11.out).mono ?_); rintro e w18 ⟨v104, rfl, ho0, hb⟩; have n0_ := Aside0.mk (Kd.R_lower ho0 (below_size (by repeat (first | (with_reducible first | exact HB.out | apply below_alloc | apply pw_below_drewN | apply below_drew1) | exact HB.out)))); have n1_ := Aside0.mk (below_step (by repeat (first | (with_reducible first | exact HB.out | apply below_alloc | apply pw_below_drewN | apply below_drew1) | exact HB.out)) hb); clear HB; have HO105 := n0_; have HB := n1_; clear n0_ n1_; (try clear hb); (try clear hb2); (try clear hk); (try clear hi); (try clear ho0)) | (go_at_call 30; (with_reducible refine (ciboriumref15_parts.calls kj2 a1 t106 _ A12.out).mono ?_); rintro e w19 ⟨v107, rfl, ho0, hb⟩; have n0_ := Aside0.mk (Kd.R_elder' (by (with_reducible repeat (first | apply Kd.R_alloc | apply Kd.R_drewN | apply Kd.R_drew)); exact HO105.out) (Kd.R_base ho0) hb); have n1_ := Aside0.mk (Kd.R_lower (Kd.R_new' ho0 (Kd.R_lt (by (with_reducible repeat (first | apply Kd.R_alloc | apply Kd.R_drewN | apply Kd.R_drew)); exact HO105.out))) (below_size (by repeat (first | (with_reducible first | exact HB.out | apply below_alloc | apply pw_below_drewN | apply below_drew1) | exact HB.out)))); have n2_ := Aside0.mk (below_step (by repeat (first | (with_reducible first | exact HB.out | apply below_alloc | apply pw_below_drewN | apply below_drew1) | exact HB.out)) hb); clear HO105; clear HB; have HO105 := n0_; have HO108 := n1_; have HB := n2_; clear n0_ n1_ n2_; (try clear hb); (try clear hb2); (try clear hk); (try clear hi); (try clear ho0); obtain ⟨Ao20, co20, eo20⟩ := Kd.R_slice HO105.out; subst eo20; have p109 : 0 ≤ ((ji13) : Int) := of_decide_eq_true (by first | (with_reducible assumption) | assumption); have q109 : (ji13) < (t103.length : Int) := of_decide_eq_true (by first | (with_reducible assumption) | assumption); obtain ⟨ad109, e109, hx109_0⟩ := Kd.at_string (Kd.R_reads' HO105.out).2.2 (ji13) p109 q109; cases e109; replace p109 := eq_true p109; replace q109 := eq_true q109) | (go_at_call 36; (with_reducible refine (ciboriumref15_Star.calls kj2 (rdOf ByteArray.empty t103 (ji13)) t110 _ A16.out).mono ?_); rintro e w' ⟨rfl, ⟨nd, rfl⟩⟩; (try first | exact ⟨rfl, _, World.drewN_drewN _ _ _⟩ | exact ⟨rfl, _, Eq.trans (World.drewN_drewN _ _ _) (congrArg (World.drewN _) (Nat.add_assoc _ _ _))⟩)))
            repeat (go_quiet (first | (go_at_call 30; (with_reducible refine (ciboriumref15_parts.calls kj2 a0 t103 _ A11.out).mono ?_); rintro e w18 ⟨v104, rfl, ho0, hb⟩; have n0_ := Aside0.mk (Kd.R_lower ho0 (below_size (by repeat (first | (with_reducible first | exact HB.out | apply below_alloc | apply pw_below_drewN | apply below_drew1) | exact HB.out)))); have n1_ := Aside0.mk (below_step (by repeat (first | (with_reducible first | exact HB.out | apply below_alloc | apply pw_below_drewN | apply below_drew1) | exact HB.out)) hb); clear HB; have HO105 := n0_; have HB := n1_; clear n0_ n1_; (try clear hb); (try clear hb2); (try clear hk); (try clear hi); (try clear ho0)) | (go_at_call 30; (with_reducible refine (ciboriumref15_parts.calls kj2 a1 t106 _ A12.out).mono ?_); rintro e w19 ⟨v107, rfl, ho0, hb⟩; have n0_ := Aside0.mk (Kd.R_elder' (by (with_reducible repeat (first | apply Kd.R_alloc | apply Kd.R_drewN | apply Kd.R_drew)); exact HO105.out) (Kd.R_base ho0) hb); have n1_ := Aside0.mk (Kd.R_lower (Kd.R_new' ho0 (Kd.R_lt (by (with_reducible repeat (first | apply Kd.R_alloc | apply Kd.R_drewN | apply Kd.R_drew)); exact HO105.out))) (below_size (by repeat (first | (with_reducible first | exact HB.out | apply below_alloc | apply pw_below_drewN | apply below_drew1) | exact HB.out)))); have n2_ := Aside0.mk (below_step (by repeat (first | (with_reducible first | exact HB.out | apply below_alloc | apply pw_below_drewN | apply below_drew1) | exact HB.out)) hb); clear HO105; clear HB; have HO105 := n0_; have HO108 := n1_; have HB := n2_; clear n0_ n1_ n2_; (try clear hb); (try clear hb2); (try clear hk); (try clear hi); (try clear ho0); obtain ⟨Ao20, co20, eo20⟩ := Kd.R_slice HO105.out; subst eo20; have p109 : 0 ≤ ((ji13) : Int) := of_decide_eq_true (by first | (with_reducible assumption) | assumption); have q109 : (ji13) < (t103.length : Int) := of_decide_eq_true (by first | (with_reducible assumption) | assumption); obtain ⟨ad109, e109, hx109_0⟩ := Kd.at_string (Kd.R_reads' HO105.out).2.2 (ji13) p109 q109; cases e109; replace p109 := eq_true p109; replace q109 := eq_true q109) | (go_at_call 36; (with_reducible refine (ciboriumref15_Star.calls kj2 (rdOf ByteArray.empty t103 (ji13)) t110 _ A16.out).mono ?_); rintro e w' ⟨rfl, ⟨nd, rfl⟩⟩; (try first | exact ⟨rfl, _, World.drewN_drewN _ _ _⟩ | exact ⟨rfl, _, Eq.trans (World.drewN_drewN _ _ _) (congrArg (World.drewN _) (Nat.add_assoc _ _ _))⟩))); go_upto_if 33 with (first | (go_at_call 30; (with_reducible refine (ciboriumref15_parts.calls kj2 a0 t103 _ A11.out).mono ?_); rintro e w18 ⟨v104, rfl, ho0, hb⟩; have n0_ := Aside0.mk (Kd.R_lower ho0 (below_size (by repeat (first | (with_reducible first | exact HB.out | apply below_alloc | apply pw_below_drewN | apply below_drew1) | exact HB.out)))); have n1_ := Aside0.mk (below_step (by repeat (first | (with_reducible first | exact HB.out | apply below_alloc | apply pw_below_drewN | apply below_drew1) | exact HB.out)) hb); clear HB; have HO105 := n0_; have HB := n1_; clear n0_ n1_; (try clear hb); (try clear hb2); (try clear hk); (try clear hi); (try clear ho0)) | (go_at_call 30; (with_reducible refine (ciboriumref15_parts.calls kj2 a1 t106 _ A12.out).mono ?_); rintro e w19 ⟨v107, rfl, ho0, hb⟩; have n0_ := Aside0.mk (Kd.R_elder' (by (with_reducible repeat (first | apply Kd.R_alloc | apply Kd.R_drewN | apply Kd.R_drew)); exact HO105.out) (Kd.R_base ho0) hb); have n1_ := Aside0.mk (Kd.R_lower (Kd.R_new' ho0 (Kd.R_lt (by (with_reducible repeat (first | apply Kd.R_alloc | apply Kd.R_drewN | apply Kd.R_drew)); exact HO105.out))) (below_size (by repeat (first | (with_reducible first | exact HB.out | apply below_alloc | apply pw_below_drewN | apply below_drew1) | exact HB.out)))); have n2_ := Aside0.mk (below_step (by repeat (first | (with_reducible first | exact HB.out | apply below_alloc | apply pw_below_drewN | apply below_drew1) | exact HB.out)) hb); clear HO105; clear HB; have HO105 := n0_; have HO108 := n1_; have HB := n2_; clear n0_ n1_ n2_; (try clear hb); (try clear hb2); (try clear hk); (try clear hi); (try clear ho0); obtain ⟨Ao20, co20, eo20⟩ := Kd.R_slice HO105.out; subst eo20; have p109 : 0 ≤ ((ji13) : Int) := of_decide_eq_true (by first | (with_reducible assumption) | assumption); have q109 : (ji13) < (t103.length : Int) := of_decide_eq_true (by first | (with_reducible assumption) | assumption); obtain ⟨ad109, e109, hx109_0⟩ := Kd.at_string (Kd.R_reads' HO105.out).2.2 (ji13) p109 q109; cases e109; replace p109 := eq_true p109; replace q109 := eq_true q109) | (go_at_call 36; (with_reducible refine (ciboriumref15_Star.calls kj2 (rdOf ByteArray.empty t103 (ji13)) t110 _ A16.out).mono ?_); rintro e w' ⟨rfl, ⟨nd, rfl⟩⟩; (try first | exact ⟨rfl, _, World.drewN_drewN _ _ _⟩ | exact ⟨rfl, _, Eq.trans (World.drewN_drewN _ _ _) (congrArg (World.drewN _) (Nat.add_assoc _ _ _))⟩))))
            (try simp only [Act.put, List.setIfInBounds_toArray, List.set_cons_zero, List.set_cons_succ])
            go_cut [7] (fun v7 wc => ∃ (kq : Nat) (x7_16 : Int), v7 = .int .i64 x7_16 ∧ Aside0 (ciboriumref15_Match.j1 kq t103 t106 x7_16 t110 = some r) ∧ Aside0 (kq ≤ kj2) ∧ Aside0 (Kd.R Kd.string 9 wc w.heap.size (fun k_ => some k_ ≠ (v107 : Value).ownBlock) (.slice (some ad109) t103.length co20) t103) ∧ Aside0 (Kd.R Kd.string 9 wc w.heap.size (fun k_ => some k_ ≠ ((.slice (some ad109) t103.length co20) : Value).ownBlock) v107 t106) ∧ Aside0 (Below w.heap.size w wc))
            case first =>
              have H := HC17.out
              clear HC17
              by_cases c21 : t110 = true
              · subst c21
                have H1 : (ciboriumref15_Match.j1 kj2 t103 t106 ji13 true) = some r := by rw [if_pos rfl] at H; exact H
                clear H
                have H := H1
                clear H1
                have H' := Aside0.mk H
                clear H
                go_wp2
                repeat (go_quiet (fail); try go_wp2)
                go_meet
                case rel => exact ⟨_, (ji13), (by first | rfl | (simp; done) | (simp only [← hji13] <;> (first | rfl | simp)) | (simp [*]; done)), H', ⟨by have := HJ2.out; first | omega | exact Nat.le_refl _⟩, ⟨by (with_reducible repeat (first | apply Kd.R_alloc | apply Kd.R_drewN | apply Kd.R_drew)); exact Kd.R_mono HO105.out (fun _ hk => hk.2)⟩, ⟨by (with_reducible repeat (first | apply Kd.R_alloc | apply Kd.R_drewN | apply Kd.R_drew)); exact Kd.R_mono HO108.out (fun _ hk => hk.2)⟩, ⟨by repeat (first | (with_reducible first | exact HB.out | apply below_alloc | apply pw_below_drewN | apply below_drew1) | exact HB.out)⟩⟩
              · replace c21 := Bool.eq_false_iff.mpr c21
                subst c21
                have H1 : (ciboriumref15_Match.j1 kj2 t103 t106 (t103.length : Int) false) = some r := by rw [if_neg (show ¬ (false = true) by decide)] at H; exact H
                clear H
                have H := H1
                clear H1
                have H' := Aside0.mk H
                clear H
                go_wp2
                repeat (go_quiet (fail); try go_wp2)
                go_meet
                case rel => exact ⟨_, ((t103.length : Int)), (by first | rfl | (simp; done) | (simp [*]; done)), H', ⟨by have := HJ2.out; first | omega | exact Nat.le_refl _⟩, ⟨by (with_reducible repeat (first | apply Kd.R_alloc | apply Kd.R_drewN | apply Kd.R_drew)); exact Kd.R_mono HO105.out (fun _ hk => hk.2)⟩, ⟨by (with_reducible repeat (first | apply Kd.R_alloc | apply Kd.R_drewN | apply Kd.R_drew)); exact Kd.R_mono HO108.out (fun _ hk => hk.2)⟩, ⟨by repeat (first | (with_reducible first | exact HB.out | apply below_alloc | apply pw_below_drewN | apply below_drew1) | exact HB.out)⟩⟩
            case rest =>
              clear HC17
              try clear c1
              try clear p1
              try clear q1
              try clear hx1
              try clear c2
              try clear p2
              try clear c5
              try clear c5b0
              try clear c5b1
              try clear p6
              try clear c10
              try clear p10
              try clear q10
              try clear hx10
              try clear c14
              try clear c14b0
              try clear c15
              try clear c15b0
              try clear c20
              try clear c21
              try clear hx109_0
              try clear p109
              try clear p2
              try clear q109
              obtain ⟨kq, x7_16, rfl, HA, HJ16, HO_5, HO_6, HB⟩ := hcut
              cases kq with
              | zero => exact absurd HA.out (by simp [ciboriumref15_Match.j1])
              | succ kj16 =>
                have H := HA.out
                clear HA
                simp only [ciboriumref15_Match.j1] at H
                have HC22 := Aside0.mk H
                clear H
                go_upto_region 9 with (fail)
                repeat (go_quiet (fail); go_upto_region 9 with (fail))
                go_cut [59] (fun v59 wc => ∃ (kq : Nat) (x59_21 : Bool), v59 = .bool x59_21 ∧ Aside0 (ciboriumref15_Match.j2 kq t103 t106 x7_16 t110 x59_21 = some r) ∧ Aside0 (kq ≤ kj16) ∧ Aside0 (Kd.R Kd.string 9 wc w.heap.size (fun k_ => some k_ ≠ (v107 : Value).ownBlock) (.slice (some ad109) t103.length co20) t103) ∧ Aside0 (Kd.R Kd.string 9 wc w.heap.size (fun k_ => some k_ ≠ ((.slice (some ad109) t103.length co20) : Value).ownBlock) v107 t106) ∧ Aside0 (Below w.heap.size w wc))
                case first =>
                  have H := HC22.out
                  clear HC22
                  by_cases c23 : (t106.length : Int) < x7_16
                  · rw [if_pos c23] at H
                    have c23b0 : decide ((t106.length : Int) < x7_16) = true := decide_eq_true c23
                    clear c23
                    (first | rw [c23b0] | (simp only [i64_w, i32_w]; rw [c23b0]) | skip)
                    have H' := Aside0.mk H
                    clear H
                    obtain ⟨Ao24, co24, eo24⟩ := Kd.R_slice HO_6.out
                    subst eo24
                    go_wp2
                    repeat (go_quiet (fail); try go_wp2)
                    go_meet
                    case rel => exact ⟨_, (true), (by first | rfl | (simp; done) | (simp [*]; done)), H', ⟨by have := HJ2.out; have := HJ16.out; first | omega | exact Nat.le_refl _⟩, ⟨by (with_reducible repeat (first | apply Kd.R_alloc | apply Kd.R_drewN | apply Kd.R_drew)); exact HO_5.out⟩, ⟨by (with_reducible repeat (first | apply Kd.R_alloc | apply Kd.R_drewN | apply Kd.R_drew)); exact HO_6.out⟩, ⟨by repeat (first | (with_reducible first | exact HB.out | apply below_alloc | apply pw_below_drewN | apply below_drew1) | exact HB.out)⟩⟩
                  · rw [if_neg c23] at H
                    have c23b0 : decide ((t106.length : Int) < x7_16) = false := decide_eq_false c23
                    clear c23
                    (first | rw [c23b0] | (simp only [i64_w, i32_w]; rw [c23b0]) | skip)
                    by_cases c25 : t110 = true
                    · subst c25
                      have H1 : (ciboriumref15_Match.j2 kj16 t103 t106 x7_16 true (decide ((t106.length : Int) < (wrap64 (x7_16 + 1))))) = some r := by rw [if_pos rfl] at H; exact H
                      clear H
                      have H := H1
                      clear H1
                      have H' := Aside0.mk H
                      clear H
                      obtain ⟨Ao26, co26, eo26⟩ := Kd.R_slice HO_6.out
                      subst eo26
                      go_wp2
                      repeat (go_quiet (fail); try go_wp2)
                      go_meet
                      case rel => exact ⟨_, (decide ((t106.length : Int) < (wrap64 (x7_16 + 1)))), (by first | rfl | (simp; done) | (simp [*]; done)), H', ⟨by have := HJ2.out; have := HJ16.out; first | omega | exact Nat.le_refl _⟩, ⟨by (with_reducible repeat (first | apply Kd.R_alloc | apply Kd.R_drewN | apply Kd.R_drew)); exact HO_5.out⟩, ⟨by (with_reducible repeat (first | apply Kd.R_alloc | apply Kd.R_drewN | apply Kd.R_drew)); exact HO_6.out⟩, ⟨by repeat (first | (with_reducible first | exact HB.out | apply below_alloc | apply pw_below_drewN | apply below_drew1) | exact HB.out)⟩⟩
                    · replace c25 := Bool.eq_false_iff.mpr c25
                      subst c25
                      have H1 : (if (t106.length : Int) = x7_16 then (ciboriumref15_Match.j2 kj16 t103 t106 x7_16 false false) else (ciboriumref15_Match.j2 kj16 t103 t106 x7_16 false true)) = some r := by rw [if_neg (show ¬ (false = true) by decide)] at H; exact H
                      clear H
                      have H := H1
                      clear H1
                      by_cases c27 : (t106.length : Int) = x7_16
                      · rw [if_pos c27] at H
                        have c27b0 : ((t106.length : Int) == x7_16) = true := beq_iff_eq.mpr c27
                        have c27b1 : ((t106.length : Int) != x7_16) = false := bne_eq_false_iff_eq.mpr c27
                        clear c27
                        have H' := Aside0.mk H
                        clear H
                        obtain ⟨Ao28, co28, eo28⟩ := Kd.R_slice HO_6.out
                        subst eo28
                        go_wp2
                        repeat (go_quiet (fail); try go_wp2)
                        go_meet
                        case rel => exact ⟨_, (false), (by first | rfl | (simp; done) | (simp [*]; done)), H', ⟨by have := HJ2.out; have := HJ16.out; first | omega | exact Nat.le_refl _⟩, ⟨by (with_reducible repeat (first | apply Kd.R_alloc | apply Kd.R_drewN | apply Kd.R_drew)); exact HO_5.out⟩, ⟨by (with_reducible repeat (first | apply Kd.R_alloc | apply Kd.R_drewN | apply Kd.R_drew)); exact HO_6.out⟩, ⟨by repeat (first | (with_reducible first | exact HB.out | apply below_alloc | apply pw_below_drewN | apply below_drew1) | exact HB.out)⟩⟩
                      · rw [if_neg c27] at H
                        have c27b0 : ((t106.length : Int) == x7_16) = false := beq_eq_false_iff_ne.mpr c27
                        have c27b1 : ((t106.length : Int) != x7_16) = true := bne_iff_ne.mpr c27
                        have H' := Aside0.mk H
                        clear H
                        obtain ⟨Ao29, co29, eo29⟩ := Kd.R_slice HO_6.out
                        subst eo29
                        go_wp2
                        repeat (go_quiet (fail); try go_wp2)
                        go_meet
                        case rel => exact ⟨_, (true), (by first | rfl | (simp; done) | (simp [*]; done)), H', ⟨by have := HJ2.out; have := HJ16.out; first | omega | exact Nat.le_refl _⟩, ⟨by (with_reducible repeat (first | apply Kd.R_alloc | apply Kd.R_drewN | apply Kd.R_drew)); exact HO_5.out⟩, ⟨by (with_reducible repeat (first | apply Kd.R_alloc | apply Kd.R_drewN | apply Kd.R_drew)); exact HO_6.out⟩, ⟨by repeat (first | (with_reducible first | exact HB.out | apply below_alloc | apply pw_below_drewN | apply below_drew1) | exact HB.out)⟩⟩
                case rest =>
                  clear HC22
                  try clear c1
                  try clear p1
                  try clear q1
                  try clear hx1
                  try clear c2
                  try clear p2
                  try clear c5
                  try clear c5b0
                  try clear c5b1
                  try clear p6
                  try clear c10
                  try clear p10
                  try clear q10
                  try clear hx10
                  try clear c14
                  try clear c14b0
                  try clear c15
                  try clear c15b0
                  try clear c20
                  try clear c21
                  try clear c23
                  try clear c23b0
                  try clear c25
                  try clear c27
                  try clear c27b0
                  try clear c27b1
                  try clear hx109_0
                  try clear p1
                  try clear p10
                  try clear p109
                  try clear p2
                  try clear p6
                  try clear q1
                  try clear q10
                  try clear q109
                  obtain ⟨kq, x59_21, rfl, HA, HJ21, HO_5, HO_6, HB⟩ := hcut
                  cases kq with
                  | zero => exact absurd HA.out (by simp [ciboriumref15_Match.j2])
                  | succ kj21 =>
                    have H := HA.out
                    clear HA
                    simp only [ciboriumref15_Match.j2] at H
                    by_cases c30 : x59_21 = true
                    · subst c30
                      have H1 : (some false) = some r := by rw [if_pos rfl] at H; exact H
                      clear H
                      have H := H1
                      clear H1
                      obtain rfl := Option.some.inj H
                      go_wp2
                      repeat (go_quiet (fail); try go_wp2)
                      go_ret
                      exact ⟨by first | rfl | (simp [errW_none, errW_some] <;> rfl) | (simp only [← hji13]; first | rfl | (simp [errW_none, errW_some] <;> rfl)) | (simp [*, errW_none, errW_some] <;> rfl), by repeat (first | (with_reducible first | exact HB.out | apply below_alloc | apply pw_below_drewN | apply below_drew1) | exact HB.out)⟩
                    · replace c30 := Bool.eq_false_iff.mpr c30
                      subst c30
                      have H1 : (ciboriumref15_Match.l0 kj21 t103 t106 x7_16 t110 0) = some r := by rw [if_neg (show ¬ (false = true) by decide)] at H; exact H
                      clear H
                      have H := H1
                      clear H1
                      have H' := Aside0.mk H
                      clear H
                      go_wp2
                      repeat (go_quiet (fail); try go_wp2)
                      go_loopg [9] kj21 (fun kq v9 w' => ∃ (x9_4 : Int), v9 = .int .i64 x9_4 ∧ Aside0 (ciboriumref15_Match.l0 kq t103 t106 x7_16 t110 x9_4 = some r) ∧ Aside0 (kq ≤ kj21) ∧ Aside0 (Kd.R Kd.string 9 w' w.heap.size (fun k_ => some k_ ≠ (v107 : Value).ownBlock) (.slice (some ad109) t103.length co20) t103) ∧ Aside0 (Kd.R Kd.string 9 w' w.heap.size (fun k_ => some k_ ≠ ((.slice (some ad109) t103.length co20) : Value).ownBlock) v107 t106) ∧ Aside0 (Below w.heap.size w w'))
                      case atStart => exact ⟨(0), (by first | rfl | (simp; done) | (simp [*]; done)), H', ⟨Nat.le_refl _⟩, ⟨by (with_reducible repeat (first | apply Kd.R_alloc | apply Kd.R_drewN | apply Kd.R_drew)); exact HO_5.out⟩, ⟨by (with_reducible repeat (first | apply Kd.R_alloc | apply Kd.R_drewN | apply Kd.R_drew)); exact HO_6.out⟩, ⟨by repeat (first | (with_reducible first | exact HB.out | apply below_alloc | apply pw_below_drewN | apply below_drew1) | exact HB.out)⟩⟩
                      case round =>
                        clear H'
                        try clear c1
                        try clear p1
                        try clear q1
                        try clear hx1
                        try clear c2
                        try clear p2
                        try clear c3
                        try clear c5
                        try clear c5b0
                        try clear c5b1
                        try clear p6
                        try clear c10
                        try clear p10
                        try clear q10
                        try clear hx10
                        try clear c14
                        try clear c14b0
                        try clear c15
                        try clear c15b0
                        try clear c20
                        try clear c21
                        try clear c23
                        try clear c23b0
                        try clear c25
                        try clear c27
                        try clear c27b0
                        try clear c27b1
                        try clear c30
                        try clear hx109_0
                        try clear p1
                        try clear p10
                        try clear p109
                        try clear p2
                        try clear p6
                        try clear q1
                        try clear q10
                        try clear q109
                        obtain ⟨x9_4, rfl, HA, HK4, HO_5, HO_6, HB⟩ := hrel
                        cases gk with
                        | zero => exact absurd HA.out (by simp [ciboriumref15_Match.l0])
                        | succ k4 =>
                          have H := HA.out
                          clear HA
                          simp only [ciboriumref15_Match.l0] at H
                          by_cases c31 : x9_4 < x7_16
                          · rw [if_pos c31] at H
                            have c31b0 : decide (x9_4 < x7_16) = true := decide_eq_true c31
                            clear c31
                            by_cases c32 : 0 ≤ x9_4
                            · rw [if_pos c32] at H
                              have c32b0 : decide (0 ≤ x9_4) = true := decide_eq_true c32
                              clear c32
                              by_cases c33 : x9_4 < (t103.length : Int)
                              · rw [if_pos c33] at H
                                have c33b0 : decide (x9_4 < (t103.length : Int)) = true := decide_eq_true c33
                                clear c33
                                by_cases c34 : (rdOf ByteArray.empty t103 x9_4).toList = ([43] : List UInt8)
                                · rw [if_pos c34] at H
                                  have c34b0 : ((rdOf ByteArray.empty t103 x9_4).toList == ([43] : List UInt8)) = true := beq_iff_eq.mpr c34
                                  have c34b1 : ((rdOf ByteArray.empty t103 x9_4).toList != ([43] : List UInt8)) = false := bne_eq_false_iff_eq.mpr c34
                                  clear c34
                                  have H' := Aside0.mk H
                                  clear H
                                  have p111 : 0 ≤ (x9_4 : Int) := of_decide_eq_true (by first | (with_reducible assumption) | assumption)
                                  have q111 : x9_4 < (t103.length : Int) := of_decide_eq_true (by first | (with_reducible assumption) | assumption)
                                  obtain ⟨ad111, e111, hx111_0⟩ := Kd.at_string (Kd.R_reads' HO_5.out).2.2 x9_4 p111 q111
                                  obtain rfl : ad109 = ad111 := (by injection e111)
                                  replace p111 := eq_true p111
                                  replace q111 := eq_true q111
                                  go_wp2
                                  repeat (go_quiet (fail); try go_wp2)
                                  go_roundg k4
                                  case measure => have := HJ2.out; have := HJ16.out; have := HJ21.out; have := HK4.out; omega
                                  case rel => exact ⟨(wrap64 (x9_4 + 1)), (by first | rfl | (simp; done) | (simp [*]; done)), H', ⟨by have := HJ2.out; have := HJ16.out; have := HJ21.out; have := HK4.out; omega⟩, ⟨by (with_reducible repeat (first | apply Kd.R_alloc | apply Kd.R_drewN | apply Kd.R_drew)); exact HO_5.out⟩, ⟨by (with_reducible repeat (first | apply Kd.R_alloc | apply Kd.R_drewN | apply Kd.R_drew)); exact HO_6.out⟩, ⟨by repeat (first | (with_reducible first | exact HB.out | apply below_alloc | apply pw_below_drewN | apply below_drew1) | exact HB.out)⟩⟩
                                · rw [if_neg c34] at H
                                  have c34b0 : ((rdOf ByteArray.empty t103 x9_4).toList == ([43] : List UInt8)) = false := beq_eq_false_iff_ne.mpr c34
                                  have c34b1 : ((rdOf ByteArray.empty t103 x9_4).toList != ([43] : List UInt8)) = true := bne_iff_ne.mpr c34
                                  by_cases c35 : x9_4 < (t106.length : Int)
                                  · rw [if_pos c35] at H
                                    have c35b0 : decide (x9_4 < (t106.length : Int)) = true := decide_eq_true c35
                                    clear c35
                                    by_cases c36 : (rdOf ByteArray.empty t103 x9_4).toList = (rdOf ByteArray.empty t106 x9_4).toList
                                    · rw [if_pos c36] at H
                                      have c36b0 : ((rdOf ByteArray.empty t103 x9_4).toList == (rdOf ByteArray.empty t106 x9_4).toList) = true := beq_iff_eq.mpr c36
                                      have c36b1 : ((rdOf ByteArray.empty t103 x9_4).toList != (rdOf ByteArray.empty t106 x9_4).toList) = false := bne_eq_false_iff_eq.mpr c36
                                      clear c36
                                      have H' := Aside0.mk H
                                      clear H
                                      have p111 : 0 ≤ (x9_4 : Int) := of_decide_eq_true (by first | (with_reducible assumption) | assumption)
                                      have q111 : x9_4 < (t103.length : Int) := of_decide_eq_true (by first | (with_reducible assumption) | assumption)
                                      obtain ⟨ad111, e111, hx111_0⟩ := Kd.at_string (Kd.R_reads' HO_5.out).2.2 x9_4 p111 q111
                                      obtain rfl : ad109 = ad111 := (by injection e111)
                                      replace p111 := eq_true p111
                                      replace q111 := eq_true q111
                                      have p112 : 0 ≤ (x9_4 : Int) := of_decide_eq_true (by first | (with_reducible assumption) | assumption)
                                      have q112 : x9_4 < (t103.length : Int) := of_decide_eq_true (by first | (with_reducible assumption) | assumption)
                                      obtain ⟨ad112, e112, hx112_0⟩ := Kd.at_string (Kd.R_reads' HO_5.out).2.2 x9_4 p112 q112
                                      obtain rfl : ad109 = ad112 := (by injection e112)
                                      replace p112 := eq_true p112
                                      replace q112 := eq_true q112
                                      obtain ⟨Ao37, co37, eo37⟩ := Kd.R_slice HO_6.out
                                      subst eo37
                                      have p113 : 0 ≤ (x9_4 : Int) := of_decide_eq_true (by first | (with_reducible assumption) | assumption)
                                      have q113 : x9_4 < (t106.length : Int) := of_decide_eq_true (by first | (with_reducible assumption) | assumption)
                                      obtain ⟨ad113, e113, hx113_0⟩ := Kd.at_string (Kd.R_reads' HO_6.out).2.2 x9_4 p113 q113
                                      cases e113
                                      replace p113 := eq_true p113
                                      replace q113 := eq_true q113
                                      go_wp2
                                      repeat (go_quiet (fail); try go_wp2)
                                      go_roundg k4
                                      case measure => have := HJ2.out; have := HJ16.out; have := HJ21.out; have := HK4.out; omega
                                      case rel => exact ⟨(wrap64 (x9_4 + 1)), (by first | rfl | (simp; done) | (simp [*]; done)), H', ⟨by have := HJ2.out; have := HJ16.out; have := HJ21.out; have := HK4.out; omega⟩, ⟨by (with_reducible repeat (first | apply Kd.R_alloc | apply Kd.R_drewN | apply Kd.R_drew)); exact HO_5.out⟩, ⟨by (with_reducible repeat (first | apply Kd.R_alloc | apply Kd.R_drewN | apply Kd.R_drew)); exact HO_6.out⟩, ⟨by repeat (first | (with_reducible first | exact HB.out | apply below_alloc | apply pw_below_drewN | apply below_drew1) | exact HB.out)⟩⟩
                                    · rw [if_neg c36] at H
                                      have c36b0 : ((rdOf ByteArray.empty t103 x9_4).toList == (rdOf ByteArray.empty t106 x9_4).toList) = false := beq_eq_false_iff_ne.mpr c36
                                      have c36b1 : ((rdOf ByteArray.empty t103 x9_4).toList != (rdOf ByteArray.empty t106 x9_4).toList) = true := bne_iff_ne.mpr c36
                                      obtain rfl := Option.some.inj H
                                      have p111 : 0 ≤ (x9_4 : Int) := of_decide_eq_true (by first | (with_reducible assumption) | assumption)
                                      have q111 : x9_4 < (t103.length : Int) := of_decide_eq_true (by first | (with_reducible assumption) | assumption)
                                      obtain ⟨ad111, e111, hx111_0⟩ := Kd.at_string (Kd.R_reads' HO_5.out).2.2 x9_4 p111 q111
                                      obtain rfl : ad109 = ad111 := (by injection e111)
                                      replace p111 := eq_true p111
                                      replace q111 := eq_true q111
                                      have p112 : 0 ≤ (x9_4 : Int) := of_decide_eq_true (by first | (with_reducible assumption) | assumption)
                                      have q112 : x9_4 < (t103.length : Int) := of_decide_eq_true (by first | (with_reducible assumption) | assumption)
                                      obtain ⟨ad112, e112, hx112_0⟩ := Kd.at_string (Kd.R_reads' HO_5.out).2.2 x9_4 p112 q112
                                      obtain rfl : ad109 = ad112 := (by injection e112)
                                      replace p112 := eq_true p112
                                      replace q112 := eq_true q112
                                      obtain ⟨Ao38, co38, eo38⟩ := Kd.R_slice HO_6.out
                                      subst eo38
                                      have p113 : 0 ≤ (x9_4 : Int) := of_decide_eq_true (by first | (with_reducible assumption) | assumption)
                                      have q113 : x9_4 < (t106.length : Int) := of_decide_eq_true (by first | (with_reducible assumption) | assumption)
                                      obtain ⟨ad113, e113, hx113_0⟩ := Kd.at_string (Kd.R_reads' HO_6.out).2.2 x9_4 p113 q113
                                      cases e113
                                      replace p113 := eq_true p113
                                      replace q113 := eq_true q113
                                      go_wp2
                                      repeat (go_quiet (fail); try go_wp2)
                                      go_ret
                                      exact ⟨by first | rfl | (simp [errW_none, errW_some] <;> rfl) | (simp only [← hji13]; first | rfl | (simp [errW_none, errW_some] <;> rfl)) | (simp [*, errW_none, errW_some] <;> rfl), by repeat (first | (with_reducible first | exact HB.out | apply below_alloc | apply pw_below_drewN | apply below_drew1) | exact HB.out)⟩
                                  · rw [if_neg c35] at H
                                    exact absurd H (by simp)
                              · rw [if_neg c33] at H
                                exact absurd H (by simp)
                            · rw [if_neg c32] at H
                              exact absurd H (by simp)
                          · rw [if_neg c31] at H
                            have c31b0 : decide (x9_4 < x7_16) = false := decide_eq_false c31
                            clear c31
                            by_cases c39 : t110 = true
                            · subst c39
                              have H1 : (if 0 ≤ x7_16 then (if x7_16 < (t106.length : Int) then (ciboriumref15_Match.l1 k4 t103 t106 x7_16 (rdOf ByteArray.empty t106 x7_16) (wrap64 (x7_16 + 1))) else (none)) else (none)) = some r := by rw [if_pos rfl] at H; exact H
                              clear H
                              have H := H1
                              clear H1
                              by_cases c40 : 0 ≤ x7_16
                              · rw [if_pos c40] at H
                                have c40b0 : decide (0 ≤ x7_16) = true := decide_eq_true c40
                                clear c40
                                by_cases c41 : x7_16 < (t106.length : Int)
                                · rw [if_pos c41] at H
                                  have c41b0 : decide (x7_16 < (t106.length : Int)) = true := decide_eq_true c41
                                  clear c41
                                  have H' := Aside0.mk H
                                  clear H
                                  obtain ⟨Ao42, co42, eo42⟩ := Kd.R_slice HO_6.out
                                  subst eo42
                                  have p114 : 0 ≤ (x7_16 : Int) := of_decide_eq_true (by first | (with_reducible assumption) | assumption)
                                  have q114 : x7_16 < (t106.length : Int) := of_decide_eq_true (by first | (with_reducible assumption) | assumption)
                                  obtain ⟨ad114, e114, hx114_0⟩ := Kd.at_string (Kd.R_reads' HO_6.out).2.2 x7_16 p114 q114
                                  cases e114
                                  replace p114 := eq_true p114
                                  replace q114 := eq_true q114
                                  go_wp2
                                  repeat (go_quiet (fail); try go_wp2)
                                  go_loopg [10, 11] k4 (fun kq v10 v11 w' => ∃ (x10_5 : ByteArray) (x11_5 : Int), v10 = .string x10_5 ∧ v11 = .int .i64 x11_5 ∧ Aside0 (ciboriumref15_Match.l1 kq t103 t106 x7_16 x10_5 x11_5 = some r) ∧ Aside0 (kq ≤ k4) ∧ Aside0 (Kd.R Kd.string 9 w' w.heap.size (fun k_ => some k_ ≠ ((.slice (some ad114) t106.length co42) : Value).ownBlock) (.slice (some ad109) t103.length co20) t103) ∧ Aside0 (Kd.R Kd.string 9 w' w.heap.size (fun k_ => some k_ ≠ ((.slice (some ad109) t103.length co20) : Value).ownBlock) (.slice (some ad114) t106.length co42) t106) ∧ Aside0 (Below w.heap.size w w'))
                                  case atStart => exact ⟨(rdOf ByteArray.empty t106 x7_16), (wrap64 (x7_16 + 1)), (by first | rfl | (simp; done) | (simp [*]; done)), (by first | rfl | (simp; done) | (simp [*]; done)), H', ⟨Nat.le_refl _⟩, ⟨by (with_reducible repeat (first | apply Kd.R_alloc | apply Kd.R_drewN | apply Kd.R_drew)); exact HO_5.out⟩, ⟨by (with_reducible repeat (first | apply Kd.R_alloc | apply Kd.R_drewN | apply Kd.R_drew)); exact HO_6.out⟩, ⟨by repeat (first | (with_reducible first | exact HB.out | apply below_alloc | apply pw_below_drewN | apply below_drew1) | exact HB.out)⟩⟩
                                  case round =>
                                    clear H'
                                    try clear c1
                                    try clear p1
                                    try clear q1
                                    try clear hx1
                                    try clear c2
                                    try clear p2
                                    try clear c3
                                    try clear c4
                                    try clear c5
                                    try clear c5b0
                                    try clear c5b1
                                    try clear p6
                                    try clear c10
                                    try clear p10
                                    try clear q10
                                    try clear hx10
                                    try clear p11
                                    try clear q11
                                    try clear hx11
                                    try clear c14
                                    try clear c14b0
                                    try clear c15
                                    try clear c15b0
                                    try clear c20
                                    try clear c21
                                    try clear c23
                                    try clear c23b0
                                    try clear c25
                                    try clear c27
                                    try clear c27b0
                                    try clear c27b1
                                    try clear c30
                                    try clear c31
                                    try clear c31b0
                                    try clear c32
                                    try clear c32b0
                                    try clear c33
                                    try clear c33b0
                                    try clear c34
                                    try clear c34b0
                                    try clear c34b1
                                    try clear c35
                                    try clear c35b0
                                    try clear c36
                                    try clear c36b0
                                    try clear c36b1
                                    try clear c39
                                    try clear c40
                                    try clear c40b0
                                    try clear c41
                                    try clear c41b0
                                    try clear hx109_0
                                    try clear hx111_0
                                    try clear hx112_0
                                    try clear hx113_0
                                    try clear hx114_0
                                    try clear p1
                                    try clear p10
                                    try clear p109
                                    try clear p111
                                    try clear p112
                                    try clear p113
                                    try clear p114
                                    try clear p2
                                    try clear p6
                                    try clear q1
                                    try clear q10
                                    try clear q109
                                    try clear q111
                                    try clear q112
                                    try clear q113
                                    try clear q114
                                    obtain ⟨x10_5, x11_5, rfl, rfl, HA, HK5, HO_5, HO_6, HB⟩ := hrel
                                    cases gk with
                                    | zero => exact absurd HA.out (by simp [ciboriumref15_Match.l1])
                                    | succ k5 =>
                                      have H := HA.out
                                      clear HA
                                      simp only [ciboriumref15_Match.l1] at H
                                      by_cases c43 : x11_5 < (t106.length : Int)
                                      · rw [if_pos c43] at H
                                        have c43b0 : decide (x11_5 < (t106.length : Int)) = true := decide_eq_true c43
                                        clear c43
                                        by_cases c44 : x10_5.size + 1 ≤ 9223372036854775807
                                        · rw [if_pos c44] at H
                                          have c44b0 := eq_true c44
                                          have c44b1 : decide (x10_5.size + 1 ≤ 9223372036854775807) = true := decide_eq_true c44
                                          try have c44b2 : (9223372036854775807 < x10_5.size + 1) = False := eq_false (Nat.not_lt.2 c44)
                                          by_cases c45 : 0 ≤ x11_5
                                          · rw [if_pos c45] at H
                                            have c45b0 : decide (0 ≤ x11_5) = true := decide_eq_true c45
                                            clear c45
                                            by_cases c46 : (x10_5 ++ (⟨#[47]⟩ : ByteArray)).size + (rdOf ByteArray.empty t106 x11_5).size ≤ 9223372036854775807
                                            · rw [if_pos c46] at H
                                              have c46b0 := eq_true c46
                                              have c46b1 : decide ((x10_5 ++ (⟨#[47]⟩ : ByteArray)).size + (rdOf ByteArray.empty t106 x11_5).size ≤ 9223372036854775807) = true := decide_eq_true c46
                                              try have c46b2 : (9223372036854775807 < (x10_5 ++ (⟨#[47]⟩ : ByteArray)).size + (rdOf ByteArray.empty t106 x11_5).size) = False := eq_false (Nat.not_lt.2 c46)
                                              have H' := Aside0.mk H
                                              clear H
                                              have p115 : 0 ≤ (x11_5 : Int) := of_decide_eq_true (by first | (with_reducible assumption) | assumption)
                                              have q115 : x11_5 < (t106.length : Int) := of_decide_eq_true (by first | (with_reducible assumption) | assumption)
                                              obtain ⟨ad115, e115, hx115_0⟩ := Kd.at_string (Kd.R_reads' HO_6.out).2.2 x11_5 p115 q115
                                              obtain rfl : ad114 = ad115 := (by injection e115)
                                              replace p115 := eq_true p115
                                              replace q115 := eq_true q115
                                              go_wp2
                                              repeat (go_quiet (fail); try go_wp2)
                                              go_roundg k5
                                              case measure => have := HJ2.out; have := HJ16.out; have := HJ21.out; have := HK4.out; have := HK5.out; omega
                                              case rel => exact ⟨((x10_5 ++ (⟨#[47]⟩ : ByteArray)) ++ (rdOf ByteArray.empty t106 x11_5)), (wrap64 (x11_5 + 1)), (by first | rfl | (simp; done) | (simp [*]; done)), (by first | rfl | (simp; done) | (simp [*]; done)), H', ⟨by have := HJ2.out; have := HJ16.out; have := HJ21.out; have := HK4.out; have := HK5.out; omega⟩, ⟨by (with_reducible repeat (first | apply Kd.R_alloc | apply Kd.R_drewN | apply Kd.R_drew)); exact HO_5.out⟩, ⟨by (with_reducible repeat (first | apply Kd.R_alloc | apply Kd.R_drewN | apply Kd.R_drew)); exact HO_6.out⟩, ⟨by repeat (first | (with_reducible first | exact HB.out | apply below_alloc | apply pw_below_drewN | apply below_drew1) | exact HB.out)⟩⟩
                                            · rw [if_neg c46] at H
                                              exact absurd H (by simp)
                                          · rw [if_neg c45] at H
                                            exact absurd H (by simp)
                                        · rw [if_neg c44] at H
                                          exact absurd H (by simp)
                                      · rw [if_neg c43] at H
                                        have c43b0 : decide (x11_5 < (t106.length : Int)) = false := decide_eq_false c43
                                        clear c43
                                        by_cases c47 : 0 ≤ x7_16
                                        · rw [if_pos c47] at H
                                          have c47b0 : decide (0 ≤ x7_16) = true := decide_eq_true c47
                                          clear c47
                                          by_cases c48 : x7_16 < (t103.length : Int)
                                          · rw [if_pos c48] at H
                                            have c48b0 : decide (x7_16 < (t103.length : Int)) = true := decide_eq_true c48
                                            clear c48
                                            obtain ⟨ji49, hji49⟩ : ∃ j_ : Int, (wrap64 (((rdOf ByteArray.empty t103 x7_16).size : Int) - 1)) = j_ := ⟨_, rfl⟩
                                            replace H : (if 0 ≤ (ji49) then (if (ji49) ≤ ((rdOf ByteArray.empty t103 x7_16).size : Int) then (if (x10_5.size : Int) ≥ (((rdOf ByteArray.empty t103 x7_16).extract 0 ((ji49) : Int).toNat).size : Int) then (if 0 ≤ (((rdOf ByteArray.empty t103 x7_16).extract 0 ((ji49) : Int).toNat).size : Int) then (if (((rdOf ByteArray.empty t103 x7_16).extract 0 ((ji49) : Int).toNat).size : Int) ≤ (x10_5.size : Int) then (some ((x10_5.extract 0 ((((rdOf ByteArray.empty t103 x7_16).extract 0 ((ji49) : Int).toNat).size : Int) : Int).toNat).toList == ((rdOf ByteArray.empty t103 x7_16).extract 0 ((ji49) : Int).toNat).toList)) else (none)) else (none)) else (some false)) else (none)) else (none)) = some r := by first | (rw [hji49] at H; exact H) | (simp only [hji49] at H ⊢; exact H)
                                            have hji49w : (IntKind.i64.wrap (((rdOf ByteArray.empty t103 x7_16).size : Int) - 1)) = ji49 := (i64_w _).trans hji49
                                            by_cases c50 : 0 ≤ (ji49)
                                            · rw [if_pos c50] at H
                                              have c50b0 := eq_true c50
                                              have c50b1 : decide (0 ≤ (ji49)) = true := decide_eq_true c50
                                              clear c50
                                              by_cases c51 : (ji49) ≤ ((rdOf ByteArray.empty t103 x7_16).size : Int)
                                              · rw [if_pos c51] at H
                                                have c51b0 := eq_true c51
                                                have c51b1 : decide ((ji49) ≤ ((rdOf ByteArray.empty t103 x7_16).size : Int)) = true := decide_eq_true c51
                                                clear c51
                                                obtain ⟨hd_, hhd⟩ : ∃ y_, (rdOf ByteArray.empty t103 x7_16).extract 0 ((ji49) : Int).toNat = y_ := ⟨_, rfl⟩
                                                simp only [hhd] at H
                                                by_cases c52 : (x10_5.size : Int) ≥ (hd_.size : Int)
                                                · rw [if_pos c52] at H
                                                  have c52b0 : decide ((hd_.size : Int) ≤ (x10_5.size : Int)) = true := decide_eq_true c52
                                                  try simp only [Int.toNat_natCast] at c52b0
                                                  have c52b1 : decide (hd_.size ≤ x10_5.size) = true := decide_eq_true (Int.ofNat_le.mp c52)
                                                  try simp only [Int.toNat_natCast] at c52b1
                                                  clear c52
                                                  by_cases c53 : 0 ≤ (hd_.size : Int)
                                                  · rw [if_pos c53] at H
                                                    have c53b0 := eq_true c53
                                                    have c53b1 : decide (0 ≤ (hd_.size : Int)) = true := decide_eq_true c53
                                                    try simp only [Int.toNat_natCast] at c53b1
                                                    clear c53
                                                    by_cases c54 : (hd_.size : Int) ≤ (x10_5.size : Int)
                                                    · rw [if_pos c54] at H
                                                      have c54b0 := eq_true c54
                                                      have c54b1 : decide ((hd_.size : Int) ≤ (x10_5.size : Int)) = true := decide_eq_true c54
                                                      try simp only [Int.toNat_natCast] at c54b1
                                                      clear c54
                                                      obtain rfl := Option.some.inj H
                                                      have p116 : 0 ≤ (x7_16 : Int) := of_decide_eq_true (by first | (with_reducible assumption) | assumption)
                                                      have q116 : x7_16 < (t103.length : Int) := of_decide_eq_true (by first | (with_reducible assumption) | assumption)
                                                      obtain ⟨ad116, e116, hx116_0⟩ := Kd.at_string (Kd.R_reads' HO_5.out).2.2 x7_16 p116 q116
                                                      obtain rfl : ad109 = ad116 := (by injection e116)
                                                      replace p116 := eq_true p116
                                                      replace q116 := eq_true q116
                                                      have p117 : 0 ≤ (x7_16 : Int) := of_decide_eq_true (by first | (with_reducible assumption) | assumption)
                                                      have q117 : x7_16 < (t103.length : Int) := of_decide_eq_true (by first | (with_reducible assumption) | assumption)
                                                      obtain ⟨ad117, e117, hx117_0⟩ := Kd.at_string (Kd.R_reads' HO_5.out).2.2 x7_16 p117 q117
                                                      obtain rfl : ad109 = ad117 := (by injection e117)
                                                      replace p117 := eq_true p117
                                                      replace q117 := eq_true q117
                                                      go_wp2
                                                      repeat (go_quiet (fail); try go_wp2)
                                                      go_ret
                                                      exact ⟨by first | rfl | (simp [errW_none, errW_some] <;> rfl) | (simp only [← hji13, ← hji49]; first | rfl | (simp [errW_none, errW_some] <;> rfl)) | (simp [*, errW_none, errW_some] <;> rfl), by repeat (first | (with_reducible first | exact HB.out | apply below_alloc | apply pw_below_drewN | apply below_drew1) | exact HB.out)⟩
                                                    · rw [if_neg c54] at H
                                                      exact absurd H (by simp)
                                                  · rw [if_neg c53] at H
                                                    exact absurd H (by simp)
                                                · rw [if_neg c52] at H
                                                  have c52b0 : decide ((hd_.size : Int) ≤ (x10_5.size : Int)) = false := decide_eq_false c52
                                                  try simp only [Int.toNat_natCast] at c52b0
                                                  have c52b1 : decide (hd_.size ≤ x10_5.size) = false := decide_eq_false (fun h => c52 (Int.ofNat_le.mpr h))
                                                  try simp only [Int.toNat_natCast] at c52b1
                                                  clear c52
                                                  obtain rfl := Option.some.inj H
                                                  have p116 : 0 ≤ (x7_16 : Int) := of_decide_eq_true (by first | (with_reducible assumption) | assumption)
                                                  have q116 : x7_16 < (t103.length : Int) := of_decide_eq_true (by first | (with_reducible assumption) | assumption)
                                                  obtain ⟨ad116, e116, hx116_0⟩ := Kd.at_string (Kd.R_reads' HO_5.out).2.2 x7_16 p116 q116
                                                  obtain rfl : ad109 = ad116 := (by injection e116)
                                                  replace p116 := eq_true p116
                                                  replace q116 := eq_true q116
                                                  have p117 : 0 ≤ (x7_16 : Int) := of_decide_eq_true (by first | (with_reducible assumption) | assumption)
                                                  have q117 : x7_16 < (t103.length : Int) := of_decide_eq_true (by first | (with_reducible assumption) | assumption)
                                                  obtain ⟨ad117, e117, hx117_0⟩ := Kd.at_string (Kd.R_reads' HO_5.out).2.2 x7_16 p117 q117
                                                  obtain rfl : ad109 = ad117 := (by injection e117)
                                                  replace p117 := eq_true p117
                                                  replace q117 := eq_true q117
                                                  go_wp2
                                                  repeat (go_quiet (fail); try go_wp2)
                                                  go_ret
                                                  exact ⟨by first | rfl | (simp [errW_none, errW_some] <;> rfl) | (simp only [← hji13, ← hji49]; first | rfl | (simp [errW_none, errW_some] <;> rfl)) | (simp [*, errW_none, errW_some] <;> rfl), by repeat (first | (with_reducible first | exact HB.out | apply below_alloc | apply pw_below_drewN | apply below_drew1) | exact HB.out)⟩
                                              · rw [if_neg c51] at H
                                                exact absurd H (by simp)
                                            · rw [if_neg c50] at H
                                              exact absurd H (by simp)
                                          · rw [if_neg c48] at H
                                            exact absurd H (by simp)
                                        · rw [if_neg c47] at H
                                          exact absurd H (by simp)
                                · rw [if_neg c41] at H
                                  exact absurd H (by simp)
                              · rw [if_neg c40] at H
                                exact absurd H (by simp)
                            · replace c39 := Bool.eq_false_iff.mpr c39
                              subst c39
                              have H1 : (some true) = some r := by rw [if_neg (show ¬ (false = true) by decide)] at H; exact H
                              clear H
                              have H := H1
                              clear H1
                              obtain rfl := Option.some.inj H
                              go_wp2
                              repeat (go_quiet (fail); try go_wp2)
                              go_ret
                              exact ⟨by first | rfl | (simp [errW_none, errW_some] <;> rfl) | (simp only [← hji13]; first | rfl | (simp [errW_none, errW_some] <;> rfl)) | (simp [*, errW_none, errW_some] <;> rfl), by repeat (first | (with_reducible first | exact HB.out | apply below_alloc | apply pw_below_drewN | apply below_drew1) | exact HB.out)⟩
          · rw [if_neg c15] at H
            exact absurd H (by simp)
        · rw [if_neg c14] at H
          exact absurd H (by simp)

end Go.Proofs.YtilhpgjohpekkaaDoor.PM
