/- What is said here: what the Go functions named below answer, each as a plain function with the proof that its call comes to that answer; written by a program out of the translation. No condition. -/
import Derived.Test.YtilhpgjohpekkaaDoorPOx0
import Derived.Test.YtilhpgjohpekkaaDoorPOx1
namespace Go.Proofs.YtilhpgjohpekkaaDoor.PO
open Go.RowKit Go.Proofs.YtilhpgjohpekkaaDoorW.PrintWords Go.Proofs.YtilhpgjohpekkaaDoorW.PrintLast Go.Proofs.YtilhpgjohpekkaaDoorW.PrintMore
attribute [local go_sem] max2_int min2_int max_two min_two max_three min_three max_four min_four   -- for this text's walks alone
set_option linter.unusedVariables false
set_option linter.unusedSimpArgs false

/-! ### ciboriumlaw15_PathOrder: function 9 -/
mutual
def ciboriumlaw15_PathOrder.j0 : Nat → ByteArray → ByteArray → Int → Int → Int → Bool → Option (Bool)
  | 0, _, _, _, _, _, _ => none
  | k + 1, x0, x1, x7, x8, x9, x48 => if x48 = true then (some false) else ((path_CheckPattern.f k x0).bind fun t135 => (if t135 = 0 then ((path_CheckPattern.f k x1).bind fun t136 => (if t136 = 0 then (ciboriumlaw15_PathOrder.j1 k x0 x1 x7 x8 x9 ((x7 == 0) != (x0.toList == x1.toList))) else (ciboriumlaw15_PathOrder.j1 k x0 x1 x7 x8 x9 false))) else (ciboriumlaw15_PathOrder.j1 k x0 x1 x7 x8 x9 false)))
def ciboriumlaw15_PathOrder.j1 : Nat → ByteArray → ByteArray → Int → Int → Int → Bool → Option (Bool)
  | 0, _, _, _, _, _, _ => none
  | k + 1, x0, x1, x7, x8, x9, x64 => if x64 = true then (some false) else (if x7 > 0 then (if x8 ≥ 0 then (if x9 ≤ 0 then (ciboriumlaw15_PathOrder.j2 k x0 x1 x7 true) else (if x7 ≥ 0 then (if x8 > 0 then (if x7 = 0 then (if x8 = 0 then (ciboriumlaw15_PathOrder.j2 k x0 x1 x7 (x9 != 0)) else (ciboriumlaw15_PathOrder.j2 k x0 x1 x7 false)) else (ciboriumlaw15_PathOrder.j2 k x0 x1 x7 false)) else (if x7 = 0 then (if x8 = 0 then (ciboriumlaw15_PathOrder.j2 k x0 x1 x7 (x9 != 0)) else (ciboriumlaw15_PathOrder.j2 k x0 x1 x7 false)) else (ciboriumlaw15_PathOrder.j2 k x0 x1 x7 false))) else (if x7 = 0 then (if x8 = 0 then (ciboriumlaw15_PathOrder.j2 k x0 x1 x7 (x9 != 0)) else (ciboriumlaw15_PathOrder.j2 k x0 x1 x7 false)) else (ciboriumlaw15_PathOrder.j2 k x0 x1 x7 false)))) else (if x7 ≥ 0 then (if x8 > 0 then (if x9 ≤ 0 then (ciboriumlaw15_PathOrder.j2 k x0 x1 x7 true) else (if x7 = 0 then (if x8 = 0 then (ciboriumlaw15_PathOrder.j2 k x0 x1 x7 (x9 != 0)) else (ciboriumlaw15_PathOrder.j2 k x0 x1 x7 false)) else (ciboriumlaw15_PathOrder.j2 k x0 x1 x7 false))) else (if x7 = 0 then (if x8 = 0 then (ciboriumlaw15_PathOrder.j2 k x0 x1 x7 (x9 != 0)) else (ciboriumlaw15_PathOrder.j2 k x0 x1 x7 false)) else (ciboriumlaw15_PathOrder.j2 k x0 x1 x7 false))) else (if x7 = 0 then (if x8 = 0 then (ciboriumlaw15_PathOrder.j2 k x0 x1 x7 (x9 != 0)) else (ciboriumlaw15_PathOrder.j2 k x0 x1 x7 false)) else (ciboriumlaw15_PathOrder.j2 k x0 x1 x7 false)))) else (if x7 ≥ 0 then (if x8 > 0 then (if x9 ≤ 0 then (ciboriumlaw15_PathOrder.j2 k x0 x1 x7 true) else (if x7 = 0 then (if x8 = 0 then (ciboriumlaw15_PathOrder.j2 k x0 x1 x7 (x9 != 0)) else (ciboriumlaw15_PathOrder.j2 k x0 x1 x7 false)) else (ciboriumlaw15_PathOrder.j2 k x0 x1 x7 false))) else (if x7 = 0 then (if x8 = 0 then (ciboriumlaw15_PathOrder.j2 k x0 x1 x7 (x9 != 0)) else (ciboriumlaw15_PathOrder.j2 k x0 x1 x7 false)) else (ciboriumlaw15_PathOrder.j2 k x0 x1 x7 false))) else (if x7 = 0 then (if x8 = 0 then (ciboriumlaw15_PathOrder.j2 k x0 x1 x7 (x9 != 0)) else (ciboriumlaw15_PathOrder.j2 k x0 x1 x7 false)) else (ciboriumlaw15_PathOrder.j2 k x0 x1 x7 false))))
def ciboriumlaw15_PathOrder.j2 : Nat → ByteArray → ByteArray → Int → Bool → Option (Bool)
  | 0, _, _, _, _ => none
  | k + 1, x0, x1, x7, x98 => if x98 = true then (some false) else ((path_Check.f x0).bind fun t137 => (if t137 = 0 then ((path_Check.f x1).bind fun t138 => (if t138 = 0 then ((ciboriumlaw15_works.f k).bind fun t139 => (some t139)) else (if x7 = 1 then ((ciboriumlaw15_works.f k).bind fun t140 => (some t140)) else (some false)))) else ((ciboriumlaw15_works.f k).bind fun t141 => (some t141))))
end
def ciboriumlaw15_PathOrder.f (k : Nat) (a0 : ByteArray) (a1 : ByteArray) (a2 : ByteArray) : Option (Bool) := if (wrap64 ((wrap64 ((a0.size : Int) + (a1.size : Int))) + (a2.size : Int))) > 65536 then ((ciboriumlaw15_works.f k).bind fun t129 => (some t129)) else ((path_More.f a0 a1).bind fun t130 => ((path_More.f a1 a2).bind fun t131 => ((path_More.f a0 a2).bind fun t132 => ((path_More.f a1 a0).bind fun t133 => (if t133 = (wrap64 (-t130)) then ((path_More.f a0 a0).bind fun t134 => (if t134 = 0 then (if t130 < (-1) then (ciboriumlaw15_PathOrder.j0 k a0 a1 t130 t131 t132 true) else (ciboriumlaw15_PathOrder.j0 k a0 a1 t130 t131 t132 (decide (t130 > 1)))) else (ciboriumlaw15_PathOrder.j0 k a0 a1 t130 t131 t132 true))) else (ciboriumlaw15_PathOrder.j0 k a0 a1 t130 t131 t132 true))))))
theorem ciboriumlaw15_PathOrder.mono_l : ∀ k, (∀ y0 y1 y2 y3 y4 y5, LeO (ciboriumlaw15_PathOrder.j0 k y0 y1 y2 y3 y4 y5) (ciboriumlaw15_PathOrder.j0 (k + 1) y0 y1 y2 y3 y4 y5)) ∧ (∀ y0 y1 y2 y3 y4 y5, LeO (ciboriumlaw15_PathOrder.j1 k y0 y1 y2 y3 y4 y5) (ciboriumlaw15_PathOrder.j1 (k + 1) y0 y1 y2 y3 y4 y5)) ∧ (∀ y0 y1 y2 y3, LeO (ciboriumlaw15_PathOrder.j2 k y0 y1 y2 y3) (ciboriumlaw15_PathOrder.j2 (k + 1) y0 y1 y2 y3))
  | 0 => ⟨fun _ _ _ _ _ _ r h => by simp [ciboriumlaw15_PathOrder.j0] at h, fun _ _ _ _ _ _ r h => by simp [ciboriumlaw15_PathOrder.j1] at h, fun _ _ _ _ r h => by simp [ciboriumlaw15_PathOrder.j2] at h⟩
  | k + 1 => by
    obtain ⟨ih0, ih1, ih2⟩ := ciboriumlaw15_PathOrder.mono_l k
    refine ⟨?_, ?_, ?_⟩
    · intro y0 y1 y2 y3 y4 y5
      unfold ciboriumlaw15_PathOrder.j0
      repeat' first
      | (with_reducible exact ih0 _ _ _ _ _ _)
      | (with_reducible exact ih1 _ _ _ _ _ _)
      | (with_reducible exact ih2 _ _ _ _)
      | (with_reducible exact ciboriumlaw15_works.mono _)
      | (with_reducible exact path_CheckPattern.mono _ _)
      | (with_reducible exact LeO.refl _)
      | (with_reducible exact LeO.none _)
      | (with_reducible refine LeO.ite ?_ ?_)
      | (with_reducible refine LeO.bind ?_ (fun _ => ?_))
      | exact ih0 _ _ _ _ _ _
      | exact ih1 _ _ _ _ _ _
      | exact ih2 _ _ _ _
      | exact ciboriumlaw15_works.mono _
      | exact path_CheckPattern.mono _ _
      | exact LeO.none _
      | refine LeO.ite ?_ ?_
      | refine LeO.bind ?_ (fun _ => ?_)
    · intro y0 y1 y2 y3 y4 y5
      unfold ciboriumlaw15_PathOrder.j1
      repeat' first
      | (with_reducible exact ih0 _ _ _ _ _ _)
      | (with_reducible exact ih1 _ _ _ _ _ _)
      | (with_reducible exact ih2 _ _ _ _)
      | (with_reducible exact ciboriumlaw15_works.mono _)
      | (with_reducible exact path_CheckPattern.mono _ _)
      | (with_reducible exact LeO.refl _)
      | (with_reducible exact LeO.none _)
      | (with_reducible refine LeO.ite ?_ ?_)
      | (with_reducible refine LeO.bind ?_ (fun _ => ?_))
      | exact ih0 _ _ _ _ _ _
      | exact ih1 _ _ _ _ _ _
      | exact ih2 _ _ _ _
      | exact ciboriumlaw15_works.mono _
      | exact path_CheckPattern.mono _ _
      | exact LeO.none _
      | refine LeO.ite ?_ ?_
      | refine LeO.bind ?_ (fun _ => ?_)
    · intro y0 y1 y2 y3
      unfold ciboriumlaw15_PathOrder.j2
      repeat' first
      | (with_reducible exact ih0 _ _ _ _ _ _)
      | (with_reducible exact ih1 _ _ _ _ _ _)
      | (with_reducible exact ih2 _ _ _ _)
      | (with_reducible exact ciboriumlaw15_works.mono _)
      | (with_reducible exact path_CheckPattern.mono _ _)
      | (with_reducible exact LeO.refl _)
      | (with_reducible exact LeO.none _)
      | (with_reducible refine LeO.ite ?_ ?_)
      | (with_reducible refine LeO.bind ?_ (fun _ => ?_))
      | exact ih0 _ _ _ _ _ _
      | exact ih1 _ _ _ _ _ _
      | exact ih2 _ _ _ _
      | exact ciboriumlaw15_works.mono _
      | exact path_CheckPattern.mono _ _
      | exact LeO.none _
      | refine LeO.ite ?_ ?_
      | refine LeO.bind ?_ (fun _ => ?_)
theorem ciboriumlaw15_PathOrder.mono : ∀ a0 a1 a2 k, LeO (ciboriumlaw15_PathOrder.f k a0 a1 a2) (ciboriumlaw15_PathOrder.f (k + 1) a0 a1 a2) := by
  intro a0 a1 a2 k
  obtain ⟨ih0, ih1, ih2⟩ := ciboriumlaw15_PathOrder.mono_l k
  unfold ciboriumlaw15_PathOrder.f
  repeat' first
      | (with_reducible exact ih0 _ _ _ _ _ _)
      | (with_reducible exact ih1 _ _ _ _ _ _)
      | (with_reducible exact ih2 _ _ _ _)
      | (with_reducible exact ciboriumlaw15_works.mono _)
      | (with_reducible exact path_CheckPattern.mono _ _)
      | (with_reducible exact LeO.refl _)
      | (with_reducible exact LeO.none _)
      | (with_reducible refine LeO.ite ?_ ?_)
      | (with_reducible refine LeO.bind ?_ (fun _ => ?_))
      | exact ih0 _ _ _ _ _ _
      | exact ih1 _ _ _ _ _ _
      | exact ih2 _ _ _ _
      | exact ciboriumlaw15_works.mono _
      | exact path_CheckPattern.mono _ _
      | exact LeO.none _
      | refine LeO.ite ?_ ?_
      | refine LeO.bind ?_ (fun _ => ?_)
set_option maxHeartbeats 8000000 in
set_option maxRecDepth 100000 in
theorem ciboriumlaw15_PathOrder.calls (k : Nat) (a0 : ByteArray) (a1 : ByteArray) (a2 : ByteArray) (r : Bool) (w : World) (h : ciboriumlaw15_PathOrder.f k a0 a1 a2 = some r) :
    Calls Tryd.prog 9 #[.string a0, .string a1, .string a2] w fun e w' => e = .returned (.bool r) ∧ Below w.heap.size w w' := by
  have HB := Aside0.mk (Below.refl w.heap.size w)
  have H : (if (wrap64 ((wrap64 ((a0.size : Int) + (a1.size : Int))) + (a2.size : Int))) > 65536 then ((ciboriumlaw15_works.f k).bind fun t129 => (some t129)) else ((path_More.f a0 a1).bind fun t130 => ((path_More.f a1 a2).bind fun t131 => ((path_More.f a0 a2).bind fun t132 => ((path_More.f a1 a0).bind fun t133 => (if t133 = (wrap64 (-t130)) then ((path_More.f a0 a0).bind fun t134 => (if t134 = 0 then (if t130 < (-1) then (ciboriumlaw15_PathOrder.j0 k a0 a1 t130 t131 t132 true) else (ciboriumlaw15_PathOrder.j0 k a0 a1 t130 t131 t132 (decide (t130 > 1)))) else (ciboriumlaw15_PathOrder.j0 k a0 a1 t130 t131 t132 true))) else (ciboriumlaw15_PathOrder.j0 k a0 a1 t130 t131 t132 true))))))) = some r := h
  clear h
  by_cases c4 : (wrap64 ((wrap64 ((a0.size : Int) + (a1.size : Int))) + (a2.size : Int))) > 65536
  · rw [if_pos c4] at H
    have c4b0 : decide (65536 < (wrap64 ((wrap64 ((a0.size : Int) + (a1.size : Int))) + (a2.size : Int)))) = true := decide_eq_true c4
    clear c4
    replace H := Option.bind_eq_some_iff.mp H
    obtain ⟨t129, A50, H⟩ := H
    replace H : (some t129) = some r := H
    have A5 := Aside0.mk A50
    clear A50
    obtain rfl := Option.some.inj H
    go_enter Tryd.func9, Tryd.ntmps9
    go_wp2_with (first | ((with_reducible refine gate_callee (f := 11) rfl ?_); refine goesL_ (some 19) rfl rfl Tryd.func11 (by kernel_rfl) rfl #[] rfl (by (try simp only [List.map_toArray, List.map_cons, List.map_nil]); first | done | rfl | (simp only [List.length_drop, List.length_take]; rfl)) ?_; (with_reducible refine (ciboriumlaw15_works.calls k  t129 _ A5.out).mono ?_); rintro e w6 ⟨rfl, hb⟩; refine ⟨_, rfl, ?_⟩; have n0_ := Aside0.mk (below_step (by repeat (first | (with_reducible first | exact HB.out | apply below_alloc | apply pw_below_drewN | apply below_drew1) | exact HB.out)) hb); clear HB; have HB := n0_; clear n0_; (try clear hb); (try clear hb2); (try clear hk); (try clear hi)))
    go_ret
    exact ⟨by first | rfl | (simp [errW_none, errW_some] <;> rfl) | (simp [*, errW_none, errW_some] <;> rfl), by repeat (first | (with_reducible first | exact HB.out | apply below_alloc | apply pw_below_drewN | apply below_drew1) | exact HB.out)⟩
  · rw [if_neg c4] at H
    have c4b0 : decide (65536 < (wrap64 ((wrap64 ((a0.size : Int) + (a1.size : Int))) + (a2.size : Int)))) = false := decide_eq_false c4
    clear c4
    replace H := Option.bind_eq_some_iff.mp H
    obtain ⟨t130, A70, H⟩ := H
    replace H : ((path_More.f a1 a2).bind fun t131 => ((path_More.f a0 a2).bind fun t132 => ((path_More.f a1 a0).bind fun t133 => (if t133 = (wrap64 (-t130)) then ((path_More.f a0 a0).bind fun t134 => (if t134 = 0 then (if t130 < (-1) then (ciboriumlaw15_PathOrder.j0 k a0 a1 t130 t131 t132 true) else (ciboriumlaw15_PathOrder.j0 k a0 a1 t130 t131 t132 (decide (t130 > 1)))) else (ciboriumlaw15_PathOrder.j0 k a0 a1 t130 t131 t132 true))) else (ciboriumlaw15_PathOrder.j0 k a0 a1 t130 t131 t132 true))))) = some r := H
    have A7 := Aside0.mk A70
    clear A70
    replace H := Option.bind_eq_some_iff.mp H
    obtain ⟨t131, A80, H⟩ := H
    replace H : ((path_More.f a0 a2).bind fun t132 => ((path_More.f a1 a0).bind fun t133 => (if t133 = (wrap64 (-t130)) then ((path_More.f a0 a0).bind fun t134 => (if t134 = 0 then (if t130 < (-1) then (ciboriumlaw15_PathOrder.j0 k a0 a1 t130 t131 t132 true) else (ciboriumlaw15_PathOrder.j0 k a0 a1 t130 t131 t132 (decide (t130 > 1)))) else (ciboriumlaw15_PathOrder.j0 k a0 a1 t130 t131 t132 true))) else (ciboriumlaw15_PathOrder.j0 k a0 a1 t130 t131 t132 true)))) = some r := H
    have A8 := Aside0.mk A80
    clear A80
    replace H := Option.bind_eq_some_iff.mp H
    obtain ⟨t132, A90, H⟩ := H
    replace H : ((path_More.f a1 a0).bind fun t133 => (if t133 = (wrap64 (-t130)) then ((path_More.f a0 a0).bind fun t134 => (if t134 = 0 then (if t130 < (-1) then (ciboriumlaw15_PathOrder.j0 k a0 a1 t130 t131 t132 true) else (ciboriumlaw15_PathOrder.j0 k a0 a1 t130 t131 t132 (decide (t130 > 1)))) else (ciboriumlaw15_PathOrder.j0 k a0 a1 t130 t131 t132 true))) else (ciboriumlaw15_PathOrder.j0 k a0 a1 t130 t131 t132 true))) = some r := H
    have A9 := Aside0.mk A90
    clear A90
    have HC10 := Aside0.mk H
    clear H
    go_enter Tryd.func9, Tryd.ntmps9
    go_upto_region 6 with (first | ((with_reducible refine gate_callee (f := 26) rfl ?_); refine goesL_ (some 22) rfl rfl Tryd.func26 (by kernel_rfl) rfl #[.string a0, .string a1] rfl (by (try simp only [List.map_toArray, List.map_cons, List.map_nil]); first | done | rfl | (simp only [List.length_drop, List.length_take]; rfl)) ?_; (with_reducible refine (path_More.calls a0 a1 t130 _ A7.out).mono ?_); rintro e w11 ⟨rfl, hb⟩; refine ⟨_, rfl, ?_⟩; have n0_ := Aside0.mk (below_step (by repeat (first | (with_reducible first | exact HB.out | apply below_alloc | apply pw_below_drewN | apply below_drew1) | exact HB.out)) hb); clear HB; have HB := n0_; clear n0_; (try clear hb); (try clear hb2); (try clear hk); (try clear hi)) | ((with_reducible refine gate_callee (f := 26) rfl ?_); refine goesL_ (some 25) rfl rfl Tryd.func26 (by kernel_rfl) rfl #[.string a1, .string a2] rfl (by (try simp only [List.map_toArray, List.map_cons, List.map_nil]); first | done | rfl | (simp only [List.length_drop, List.length_take]; rfl)) ?_; (with_reducible refine (path_More.calls a1 a2 t131 _ A8.out).mono ?_); rintro e w12 ⟨rfl, hb⟩; refine ⟨_, rfl, ?_⟩; have n0_ := Aside0.mk (below_step (by repeat (first | (with_reducible first | exact HB.out | apply below_alloc | apply pw_below_drewN | apply below_drew1) | exact HB.out)) hb); clear HB; have HB := n0_; clear n0_; (try clear hb); (try clear hb2); (try clear hk); (try clear hi)) | ((with_reducible refine gate_callee (f := 26) rfl ?_); refine goesL_ (some 28) rfl rfl Tryd.func26 (by kernel_rfl) rfl #[.string a0, .string a2] rfl (by (try simp only [List.map_toArray, List.map_cons, List.map_nil]); first | done | rfl | (simp only [List.length_drop, List.length_take]; rfl)) ?_; (with_reducible refine (path_More.calls a0 a2 t132 _ A9.out).mono ?_); rintro e w13 ⟨rfl, hb⟩; refine ⟨_, rfl, ?_⟩; have n0_ := Aside0.mk (below_step (by repeat (first | (with_reducible first | exact HB.out | apply below_alloc | apply pw_below_drewN | apply below_drew1) | exact HB.out)) hb); clear HB; have HB := n0_; clear n0_; (try clear hb); (try clear hb2); (try clear hk); (try clear hi)))
    (try simp only [Act.put, List.setIfInBounds_toArray, List.set_cons_zero, List.set_cons_succ])
    go_cut [48] (fun v48 wc => ∃ (kq : Nat) (x48_9 : Bool), v48 = .bool x48_9 ∧ Aside0 (ciboriumlaw15_PathOrder.j0 kq a0 a1 t130 t131 t132 x48_9 = some r) ∧ Aside0 (kq ≤ k) ∧ Aside0 (Below w.heap.size w wc))
    case first =>
      have H := HC10.out
      clear HC10
      replace H := Option.bind_eq_some_iff.mp H
      obtain ⟨t133, A140, H⟩ := H
      replace H : (if t133 = (wrap64 (-t130)) then ((path_More.f a0 a0).bind fun t134 => (if t134 = 0 then (if t130 < (-1) then (ciboriumlaw15_PathOrder.j0 k a0 a1 t130 t131 t132 true) else (ciboriumlaw15_PathOrder.j0 k a0 a1 t130 t131 t132 (decide (t130 > 1)))) else (ciboriumlaw15_PathOrder.j0 k a0 a1 t130 t131 t132 true))) else (ciboriumlaw15_PathOrder.j0 k a0 a1 t130 t131 t132 true)) = some r := H
      have A14 := Aside0.mk A140
      clear A140
      by_cases c15 : t133 = (wrap64 (-t130))
      · rw [if_pos c15] at H
        have c15b0 : (t133 == (wrap64 (-t130))) = true := beq_iff_eq.mpr c15
        have c15b1 : (t133 != (wrap64 (-t130))) = false := bne_eq_false_iff_eq.mpr c15
        clear c15
        (first | rw [c15b0] | (simp only [i64_w, i32_w]; rw [c15b0]) | skip)
        replace H := Option.bind_eq_some_iff.mp H
        obtain ⟨t134, A160, H⟩ := H
        replace H : (if t134 = 0 then (if t130 < (-1) then (ciboriumlaw15_PathOrder.j0 k a0 a1 t130 t131 t132 true) else (ciboriumlaw15_PathOrder.j0 k a0 a1 t130 t131 t132 (decide (t130 > 1)))) else (ciboriumlaw15_PathOrder.j0 k a0 a1 t130 t131 t132 true)) = some r := H
        have A16 := Aside0.mk A160
        clear A160
        by_cases c17 : t134 = 0
        · rw [if_pos c17] at H
          have c17b0 : (t134 == 0) = true := beq_iff_eq.mpr c17
          have c17b1 : (t134 != 0) = false := bne_eq_false_iff_eq.mpr c17
          clear c17
          by_cases c18 : t130 < (-1)
          · rw [if_pos c18] at H
            have c18b0 : decide (t130 < (-1)) = true := decide_eq_true c18
            clear c18
            have H' := Aside0.mk H
            clear H
            go_wp2_with (first | ((with_reducible refine gate_callee (f := 26) rfl ?_); refine goesL_ (some 31) rfl rfl Tryd.func26 (by kernel_rfl) rfl #[.string a1, .string a0] rfl (by (try simp only [List.map_toArray, List.map_cons, List.map_nil]); first | done | rfl | (simp only [List.length_drop, List.length_take]; rfl)) ?_; (with_reducible refine (path_More.calls a1 a0 t133 _ A14.out).mono ?_); rintro e w19 ⟨rfl, hb⟩; refine ⟨_, rfl, ?_⟩; have n0_ := Aside0.mk (below_step (by repeat (first | (with_reducible first | exact HB.out | apply below_alloc | apply pw_below_drewN | apply below_drew1) | exact HB.out)) hb); clear HB; have HB := n0_; clear n0_; (try clear hb); (try clear hb2); (try clear hk); (try clear hi)) | (go_at_call 26; (with_reducible refine (path_More.calls a0 a0 t134 _ A16.out).mono ?_); rintro e w20 ⟨rfl, hb⟩; have n0_ := Aside0.mk (below_step (by repeat (first | (with_reducible first | exact HB.out | apply below_alloc | apply pw_below_drewN | apply below_drew1) | exact HB.out)) hb); clear HB; have HB := n0_; clear n0_; (try clear hb); (try clear hb2); (try clear hk); (try clear hi)))
            go_meet
            case rel => exact ⟨_, (true), (by first | rfl | (simp; done) | (simp [*]; done)), H', ⟨by first | omega | exact Nat.le_refl _⟩, ⟨by repeat (first | (with_reducible first | exact HB.out | apply below_alloc | apply pw_below_drewN | apply below_drew1) | exact HB.out)⟩⟩
          · rw [if_neg c18] at H
            have c18b0 : decide (t130 < (-1)) = false := decide_eq_false c18
            clear c18
            have H' := Aside0.mk H
            clear H
            go_wp2_with (first | ((with_reducible refine gate_callee (f := 26) rfl ?_); refine goesL_ (some 31) rfl rfl Tryd.func26 (by kernel_rfl) rfl #[.string a1, .string a0] rfl (by (try simp only [List.map_toArray, List.map_cons, List.map_nil]); first | done | rfl | (simp only [List.length_drop, List.length_take]; rfl)) ?_; (with_reducible refine (path_More.calls a1 a0 t133 _ A14.out).mono ?_); rintro e w21 ⟨rfl, hb⟩; refine ⟨_, rfl, ?_⟩; have n0_ := Aside0.mk (below_step (by repeat (first | (with_reducible first | exact HB.out | apply below_alloc | apply pw_below_drewN | apply below_drew1) | exact HB.out)) hb); clear HB; have HB := n0_; clear n0_; (try clear hb); (try clear hb2); (try clear hk); (try clear hi)) | (go_at_call 26; (with_reducible refine (path_More.calls a0 a0 t134 _ A16.out).mono ?_); rintro e w22 ⟨rfl, hb⟩; have n0_ := Aside0.mk (below_step (by repeat (first | (with_reducible first | exact HB.out | apply below_alloc | apply pw_below_drewN | apply below_drew1) | exact HB.out)) hb); clear HB; have HB := n0_; clear n0_; (try clear hb); (try clear hb2); (try clear hk); (try clear hi)))
            go_meet
            case rel => exact ⟨_, (decide (t130 > 1)), (by first | rfl | (simp; done) | (simp [*]; done)), H', ⟨by first | omega | exact Nat.le_refl _⟩, ⟨by repeat (first | (with_reducible first | exact HB.out | apply below_alloc | apply pw_below_drewN | apply below_drew1) | exact HB.out)⟩⟩
        · rw [if_neg c17] at H
          have c17b0 : (t134 == 0) = false := beq_eq_false_iff_ne.mpr c17
          have c17b1 : (t134 != 0) = true := bne_iff_ne.mpr c17
          have H' := Aside0.mk H
          clear H
          go_wp2_with (first | ((with_reducible refine gate_callee (f := 26) rfl ?_); refine goesL_ (some 31) rfl rfl Tryd.func26 (by kernel_rfl) rfl #[.string a1, .string a0] rfl (by (try simp only [List.map_toArray, List.map_cons, List.map_nil]); first | done | rfl | (simp only [List.length_drop, List.length_take]; rfl)) ?_; (with_reducible refine (path_More.calls a1 a0 t133 _ A14.out).mono ?_); rintro e w23 ⟨rfl, hb⟩; refine ⟨_, rfl, ?_⟩; have n0_ := Aside0.mk (below_step (by repeat (first | (with_reducible first | exact HB.out | apply below_alloc | apply pw_below_drewN | apply below_drew1) | exact HB.out)) hb); clear HB; have HB := n0_; clear n0_; (try clear hb); (try clear hb2); (try clear hk); (try clear hi)) | (go_at_call 26; (with_reducible refine (path_More.calls a0 a0 t134 _ A16.out).mono ?_); rintro e w24 ⟨rfl, hb⟩; have n0_ := Aside0.mk (below_step (by repeat (first | (with_reducible first | exact HB.out | apply below_alloc | apply pw_below_drewN | apply below_drew1) | exact HB.out)) hb); clear HB; have HB := n0_; clear n0_; (try clear hb); (try clear hb2); (try clear hk); (try clear hi)))
          go_meet
          case rel => exact ⟨_, (true), (by first | rfl | (simp; done) | (simp [*]; done)), H', ⟨by first | omega | exact Nat.le_refl _⟩, ⟨by repeat (first | (with_reducible first | exact HB.out | apply below_alloc | apply pw_below_drewN | apply below_drew1) | exact HB.out)⟩⟩
      · rw [if_neg c15] at H
        have c15b0 : (t133 == (wrap64 (-t130))) = false := beq_eq_false_iff_ne.mpr c15
        have c15b1 : (t133 != (wrap64 (-t130))) = true := bne_iff_ne.mpr c15
        (first | rw [c15b0] | (simp only [i64_w, i32_w]; rw [c15b0]) | skip)
        have H' := Aside0.mk H
        clear H
        go_wp2_with (first | ((with_reducible refine gate_callee (f := 26) rfl ?_); refine goesL_ (some 31) rfl rfl Tryd.func26 (by kernel_rfl) rfl #[.string a1, .string a0] rfl (by (try simp only [List.map_toArray, List.map_cons, List.map_nil]); first | done | rfl | (simp only [List.length_drop, List.length_take]; rfl)) ?_; (with_reducible refine (path_More.calls a1 a0 t133 _ A14.out).mono ?_); rintro e w25 ⟨rfl, hb⟩; refine ⟨_, rfl, ?_⟩; have n0_ := Aside0.mk (below_step (by repeat (first | (with_reducible first | exact HB.out | apply below_alloc | apply pw_below_drewN | apply below_drew1) | exact HB.out)) hb); clear HB; have HB := n0_; clear n0_; (try clear hb); (try clear hb2); (try clear hk); (try clear hi)))
        go_meet
        case rel => exact ⟨_, (true), (by first | rfl | (simp; done) | (simp [*]; done)), H', ⟨by first | omega | exact Nat.le_refl _⟩, ⟨by repeat (first | (with_reducible first | exact HB.out | apply below_alloc | apply pw_below_drewN | apply below_drew1) | exact HB.out)⟩⟩
    case rest =>
      clear HC10
      try clear c1
      try clear c2
      try clear p2
      try clear c4
      try clear c4b0
      try clear p6
      try clear c9
      try clear c11
      try clear c15
      try clear c15b0
      try clear c15b1
      try clear c17
      try clear c17b0
      try clear c17b1
      try clear c18
      try clear c18b0
      obtain ⟨kq, x48_9, rfl, HA, HJ9, HB⟩ := hcut
      cases kq with
      | zero => exact absurd HA.out (by simp [ciboriumlaw15_PathOrder.j0])
      | succ kj9 =>
        have H := HA.out
        clear HA
        simp only [ciboriumlaw15_PathOrder.j0] at H
        by_cases c26 : x48_9 = true
        · subst c26
          have H1 : (some false) = some r := by rw [if_pos rfl] at H; exact H
          clear H
          have H := H1
          clear H1
          obtain rfl := Option.some.inj H
          go_wp2
          go_ret
          exact ⟨by first | rfl | (simp [errW_none, errW_some] <;> rfl) | (simp [*, errW_none, errW_some] <;> rfl), by repeat (first | (with_reducible first | exact HB.out | apply below_alloc | apply pw_below_drewN | apply below_drew1) | exact HB.out)⟩
        · replace c26 := Bool.eq_false_iff.mpr c26
          subst c26
          have H1 : ((path_CheckPattern.f kj9 a0).bind fun t135 => (if t135 = 0 then ((path_CheckPattern.f kj9 a1).bind fun t136 => (if t136 = 0 then (ciboriumlaw15_PathOrder.j1 kj9 a0 a1 t130 t131 t132 ((t130 == 0) != (a0.toList == a1.toList))) else (ciboriumlaw15_PathOrder.j1 kj9 a0 a1 t130 t131 t132 false))) else (ciboriumlaw15_PathOrder.j1 kj9 a0 a1 t130 t131 t132 false))) = some r := by rw [if_neg (show ¬ (false = true) by decide)] at H; exact H
          clear H
          have H := H1
          clear H1
          have HC27 := Aside0.mk H
          clear H
          go_upto_region 8 with (fail)
          go_cut [64] (fun v64 wc => ∃ (kq : Nat) (x64_26 : Bool), v64 = .bool x64_26 ∧ Aside0 (ciboriumlaw15_PathOrder.j1 kq a0 a1 t130 t131 t132 x64_26 = some r) ∧ Aside0 (kq ≤ kj9) ∧ Aside0 (Below w.heap.size w wc))
          case first =>
            have H := HC27.out
            clear HC27
            replace H := Option.bind_eq_some_iff.mp H
            obtain ⟨t135, A280, H⟩ := H
            replace H : (if t135 = 0 then ((path_CheckPattern.f kj9 a1).bind fun t136 => (if t136 = 0 then (ciboriumlaw15_PathOrder.j1 kj9 a0 a1 t130 t131 t132 ((t130 == 0) != (a0.toList == a1.toList))) else (ciboriumlaw15_PathOrder.j1 kj9 a0 a1 t130 t131 t132 false))) else (ciboriumlaw15_PathOrder.j1 kj9 a0 a1 t130 t131 t132 false)) = some r := H
            have A28 := Aside0.mk A280
            clear A280
            by_cases c29 : t135 = 0
            · rw [if_pos c29] at H
              have c29b0 : (t135 == 0) = true := beq_iff_eq.mpr c29
              have c29b1 : (t135 != 0) = false := bne_eq_false_iff_eq.mpr c29
              clear c29
              (first | rw [c29b0] | (simp only [i64_w, i32_w]; rw [c29b0]) | skip)
              replace H := Option.bind_eq_some_iff.mp H
              obtain ⟨t136, A300, H⟩ := H
              replace H : (if t136 = 0 then (ciboriumlaw15_PathOrder.j1 kj9 a0 a1 t130 t131 t132 ((t130 == 0) != (a0.toList == a1.toList))) else (ciboriumlaw15_PathOrder.j1 kj9 a0 a1 t130 t131 t132 false)) = some r := H
              have A30 := Aside0.mk A300
              clear A300
              by_cases c31 : t136 = 0
              · rw [if_pos c31] at H
                have c31b0 : (t136 == 0) = true := beq_iff_eq.mpr c31
                have c31b1 : (t136 != 0) = false := bne_eq_false_iff_eq.mpr c31
                clear c31
                have H' := Aside0.mk H
                clear H
                go_wp2_with (first | ((with_reducible refine gate_callee (f := 14) rfl ?_); refine goesL_ (some 50) rfl rfl Tryd.func14 (by kernel_rfl) rfl #[.string a0] rfl (by (try simp only [List.map_toArray, List.map_cons, List.map_nil]); first | done | rfl | (simp only [List.length_drop, List.length_take]; rfl)) ?_; (with_reducible refine (path_CheckPattern.calls kj9 a0 t135 _ A28.out).mono ?_); rintro e w32 ⟨rfl, hb⟩; refine ⟨_, rfl, ?_⟩; have n0_ := Aside0.mk (below_step (by repeat (first | (with_reducible first | exact HB.out | apply below_alloc | apply pw_below_drewN | apply below_drew1) | exact HB.out)) hb); clear HB; have HB := n0_; clear n0_; (try clear hb); (try clear hb2); (try clear hk); (try clear hi)) | (go_at_call 14; (with_reducible refine (path_CheckPattern.calls kj9 a1 t136 _ A30.out).mono ?_); rintro e w33 ⟨rfl, hb⟩; have n0_ := Aside0.mk (below_step (by repeat (first | (with_reducible first | exact HB.out | apply below_alloc | apply pw_below_drewN | apply below_drew1) | exact HB.out)) hb); clear HB; have HB := n0_; clear n0_; (try clear hb); (try clear hb2); (try clear hk); (try clear hi)))
                go_meet
                case rel => exact ⟨_, (((t130 == 0) != (a0.toList == a1.toList))), (by first | rfl | (simp; done) | (simp [*]; done)), H', ⟨by have := HJ9.out; first | omega | exact Nat.le_refl _⟩, ⟨by repeat (first | (with_reducible first | exact HB.out | apply below_alloc | apply pw_below_drewN | apply below_drew1) | exact HB.out)⟩⟩
              · rw [if_neg c31] at H
                have c31b0 : (t136 == 0) = false := beq_eq_false_iff_ne.mpr c31
                have c31b1 : (t136 != 0) = true := bne_iff_ne.mpr c31
                have H' := Aside0.mk H
                clear H
                go_wp2_with (first | ((with_reducible refine gate_callee (f := 14) rfl ?_); refine goesL_ (some 50) rfl rfl Tryd.func14 (by kernel_rfl) rfl #[.string a0] rfl (by (try simp only [List.map_toArray, List.map_cons, List.map_nil]); first | done | rfl | (simp only [List.length_drop, List.length_take]; rfl)) ?_; (with_reducible refine (path_CheckPattern.calls kj9 a0 t135 _ A28.out).mono ?_); rintro e w34 ⟨rfl, hb⟩; refine ⟨_, rfl, ?_⟩; have n0_ := Aside0.mk (below_step (by repeat (first | (with_reducible first | exact HB.out | apply below_alloc | apply pw_below_drewN | apply below_drew1) | exact HB.out)) hb); clear HB; have HB := n0_; clear n0_; (try clear hb); (try clear hb2); (try clear hk); (try clear hi)) | (go_at_call 14; (with_reducible refine (path_CheckPattern.calls kj9 a1 t136 _ A30.out).mono ?_); rintro e w35 ⟨rfl, hb⟩; have n0_ := Aside0.mk (below_step (by repeat (first | (with_reducible first | exact HB.out | apply below_alloc | apply pw_below_drewN | apply below_drew1) | exact HB.out)) hb); clear HB; have HB := n0_; clear n0_; (try clear hb); (try clear hb2); (try clear hk); (try clear hi)))
                go_meet
                case rel => exact ⟨_, (false), (by first | rfl | (simp; done) | (simp [*]; done)), H', ⟨by have := HJ9.out; first | omega | exact Nat.le_refl _⟩, ⟨by repeat (first | (with_reducible first | exact HB.out | apply below_alloc | apply pw_below_drewN | apply below_drew1) | exact HB.out)⟩⟩
            · rw [if_neg c29] at H
              have c29b0 : (t135 == 0) = false := beq_eq_false_iff_ne.mpr c29
              have c29b1 : (t135 != 0) = true := bne_iff_ne.mpr c29
              (first | rw [c29b0] | (simp only [i64_w, i32_w]; rw [c29b0]) | skip)
              have H' := Aside0.mk H
              clear H
              go_wp2_with (first | ((with_reducible refine gate_callee (f := 14) rfl ?_); refine goesL_ (some 50) rfl rfl Tryd.func14 (by kernel_rfl) rfl #[.string a0] rfl (by (try simp only [List.map_toArray, List.map_cons, List.map_nil]); first | done | rfl | (simp only [List.length_drop, List.length_take]; rfl)) ?_; (with_reducible refine (path_CheckPattern.calls kj9 a0 t135 _ A28.out).mono ?_); rintro e w36 ⟨rfl, hb⟩; refine ⟨_, rfl, ?_⟩; have n0_ := Aside0.mk (below_step (by repeat (first | (with_reducible first | exact HB.out | apply below_alloc | apply pw_below_drewN | apply below_drew1) | exact HB.out)) hb); clear HB; have HB := n0_; clear n0_; (try clear hb); (try clear hb2); (try clear hk); (try clear hi)))
              go_meet
              case rel => exact ⟨_, (false), (by first | rfl | (simp; done) | (simp [*]; done)), H', ⟨by have := HJ9.out; first | omega | exact Nat.le_refl _⟩, ⟨by repeat (first | (with_reducible first | exact HB.out | apply below_alloc | apply pw_below_drewN | apply below_drew1) | exact HB.out)⟩⟩
          case rest =>
            clear HC27
            try clear c1
            try clear c2
            try clear p2
            try clear c3
            try clear c4
            try clear c4b0
            try clear p6
            try clear c9
            try clear c11
            try clear c14
            try clear c15
            try clear c15b0
            try clear c15b1
            try clear c17
            try clear c17b0
            try clear c17b1
            try clear c18
            try clear c18b0
            try clear c26
            try clear c29
            try clear c29b0
            try clear c29b1
            try clear c31
            try clear c31b0
            try clear c31b1
            try clear p2
            try clear p6
            obtain ⟨kq, x64_26, rfl, HA, HJ26, HB⟩ := hcut
            cases kq with
            | zero => exact absurd HA.out (by simp [ciboriumlaw15_PathOrder.j1])
            | succ kj26 =>
              have H := HA.out
              clear HA
              simp only [ciboriumlaw15_PathOrder.j1] at H
              by_cases c37 : x64_26 = true
              · subst c37
                have H1 : (some false) = some r := by rw [if_pos rfl] at H; exact H
                clear H
                have H := H1
                clear H1
                obtain rfl := Option.some.inj H
                go_wp2
                go_ret
                exact ⟨by first | rfl | (simp [errW_none, errW_some] <;> rfl) | (simp [*, errW_none, errW_some] <;> rfl), by repeat (first | (with_reducible first | exact HB.out | apply below_alloc | apply pw_below_drewN | apply below_drew1) | exact HB.out)⟩
              · replace c37 := Bool.eq_false_iff.mpr c37
                subst c37
                have H1 : (if t130 > 0 then (if t131 ≥ 0 then (if t132 ≤ 0 then (ciboriumlaw15_PathOrder.j2 kj26 a0 a1 t130 true) else (if t130 ≥ 0 then (if t131 > 0 then (if t130 = 0 then (if t131 = 0 then (ciboriumlaw15_PathOrder.j2 kj26 a0 a1 t130 (t132 != 0)) else (ciboriumlaw15_PathOrder.j2 kj26 a0 a1 t130 false)) else (ciboriumlaw15_PathOrder.j2 kj26 a0 a1 t130 false)) else (if t130 = 0 then (if t131 = 0 then (ciboriumlaw15_PathOrder.j2 kj26 a0 a1 t130 (t132 != 0)) else (ciboriumlaw15_PathOrder.j2 kj26 a0 a1 t130 false)) else (ciboriumlaw15_PathOrder.j2 kj26 a0 a1 t130 false))) else (if t130 = 0 then (if t131 = 0 then (ciboriumlaw15_PathOrder.j2 kj26 a0 a1 t130 (t132 != 0)) else (ciboriumlaw15_PathOrder.j2 kj26 a0 a1 t130 false)) else (ciboriumlaw15_PathOrder.j2 kj26 a0 a1 t130 false)))) else (if t130 ≥ 0 then (if t131 > 0 then (if t132 ≤ 0 then (ciboriumlaw15_PathOrder.j2 kj26 a0 a1 t130 true) else (if t130 = 0 then (if t131 = 0 then (ciboriumlaw15_PathOrder.j2 kj26 a0 a1 t130 (t132 != 0)) else (ciboriumlaw15_PathOrder.j2 kj26 a0 a1 t130 false)) else (ciboriumlaw15_PathOrder.j2 kj26 a0 a1 t130 false))) else (if t130 = 0 then (if t131 = 0 then (ciboriumlaw15_PathOrder.j2 kj26 a0 a1 t130 (t132 != 0)) else (ciboriumlaw15_PathOrder.j2 kj26 a0 a1 t130 false)) else (ciboriumlaw15_PathOrder.j2 kj26 a0 a1 t130 false))) else (if t130 = 0 then (if t131 = 0 then (ciboriumlaw15_PathOrder.j2 kj26 a0 a1 t130 (t132 != 0)) else (ciboriumlaw15_PathOrder.j2 kj26 a0 a1 t130 false)) else (ciboriumlaw15_PathOrder.j2 kj26 a0 a1 t130 false)))) else (if t130 ≥ 0 then (if t131 > 0 then (if t132 ≤ 0 then (ciboriumlaw15_PathOrder.j2 kj26 a0 a1 t130 true) else (if t130 = 0 then (if t131 = 0 then (ciboriumlaw15_PathOrder.j2 kj26 a0 a1 t130 (t132 != 0)) else (ciboriumlaw15_PathOrder.j2 kj26 a0 a1 t130 false)) else (ciboriumlaw15_PathOrder.j2 kj26 a0 a1 t130 false))) else (if t130 = 0 then (if t131 = 0 then (ciboriumlaw15_PathOrder.j2 kj26 a0 a1 t130 (t132 != 0)) else (ciboriumlaw15_PathOrder.j2 kj26 a0 a1 t130 false)) else (ciboriumlaw15_PathOrder.j2 kj26 a0 a1 t130 false))) else (if t130 = 0 then (if t131 = 0 then (ciboriumlaw15_PathOrder.j2 kj26 a0 a1 t130 (t132 != 0)) else (ciboriumlaw15_PathOrder.j2 kj26 a0 a1 t130 false)) else (ciboriumlaw15_PathOrder.j2 kj26 a0 a1 t130 false)))) = some r := by rw [if_neg (show ¬ (false = true) by decide)] at H; exact H
                clear H
                have H := H1
                clear H1
                have HC38 := Aside0.mk H
                clear H
                go_upto_region 10 with (fail)
                go_cut [98] (fun v98 wc => ∃ (kq : Nat) (x98_37 : Bool), v98 = .bool x98_37 ∧ Aside0 (ciboriumlaw15_PathOrder.j2 kq a0 a1 t130 x98_37 = some r) ∧ Aside0 (kq ≤ kj26) ∧ Aside0 (Below w.heap.size w wc))
                case first =>
                  have H := HC38.out
                  clear HC38
                  by_cases c39 : t130 > 0
                  · rw [if_pos c39] at H
                    have c39b0 : decide (0 < t130) = true := decide_eq_true c39
                    clear c39
                    (first | rw [c39b0] | (simp only [i64_w, i32_w]; rw [c39b0]) | skip)
                    by_cases c40 : t131 ≥ 0
                    · rw [if_pos c40] at H
                      have c40b0 : decide (0 ≤ t131) = true := decide_eq_true c40
                      clear c40
                      by_cases c41 : t132 ≤ 0
                      · rw [if_pos c41] at H
                        have c41b0 : decide (t132 ≤ 0) = true := decide_eq_true c41
                        clear c41
                        have H' := Aside0.mk H
                        clear H
                        go_wp2
                        go_meet
                        case rel => exact ⟨_, (true), (by first | rfl | (simp; done) | (simp [*]; done)), H', ⟨by have := HJ9.out; have := HJ26.out; first | omega | exact Nat.le_refl _⟩, ⟨by repeat (first | (with_reducible first | exact HB.out | apply below_alloc | apply pw_below_drewN | apply below_drew1) | exact HB.out)⟩⟩
                      · rw [if_neg c41] at H
                        have c41b0 : decide (t132 ≤ 0) = false := decide_eq_false c41
                        clear c41
                        by_cases c42 : t130 ≥ 0
                        · rw [if_pos c42] at H
                          have c42b0 : decide (0 ≤ t130) = true := decide_eq_true c42
                          clear c42
                          by_cases c43 : t131 > 0
                          · rw [if_pos c43] at H
                            have c43b0 : decide (0 < t131) = true := decide_eq_true c43
                            clear c43
                            by_cases c44 : t130 = 0
                            · rw [if_pos c44] at H
                              have c44b0 : (t130 == 0) = true := beq_iff_eq.mpr c44
                              have c44b1 : (t130 != 0) = false := bne_eq_false_iff_eq.mpr c44
                              clear c44
                              by_cases c45 : t131 = 0
                              · rw [if_pos c45] at H
                                have c45b0 : (t131 == 0) = true := beq_iff_eq.mpr c45
                                have c45b1 : (t131 != 0) = false := bne_eq_false_iff_eq.mpr c45
                                clear c45
                                have H' := Aside0.mk H
                                clear H
                                go_wp2
                                go_meet
                                case rel => exact ⟨_, ((t132 != 0)), (by first | rfl | (simp; done) | (simp [*]; done)), H', ⟨by have := HJ9.out; have := HJ26.out; first | omega | exact Nat.le_refl _⟩, ⟨by repeat (first | (with_reducible first | exact HB.out | apply below_alloc | apply pw_below_drewN | apply below_drew1) | exact HB.out)⟩⟩
                              · rw [if_neg c45] at H
                                have c45b0 : (t131 == 0) = false := beq_eq_false_iff_ne.mpr c45
                                have c45b1 : (t131 != 0) = true := bne_iff_ne.mpr c45
                                have H' := Aside0.mk H
                                clear H
                                go_wp2
                                go_meet
                                case rel => exact ⟨_, (false), (by first | rfl | (simp; done) | (simp [*]; done)), H', ⟨by have := HJ9.out; have := HJ26.out; first | omega | exact Nat.le_refl _⟩, ⟨by repeat (first | (with_reducible first | exact HB.out | apply below_alloc | apply pw_below_drewN | apply below_drew1) | exact HB.out)⟩⟩
                            · rw [if_neg c44] at H
                              have c44b0 : (t130 == 0) = false := beq_eq_false_iff_ne.mpr c44
                              have c44b1 : (t130 != 0) = true := bne_iff_ne.mpr c44
                              have H' := Aside0.mk H
                              clear H
                              go_wp2
                              go_meet
                              case rel => exact ⟨_, (false), (by first | rfl | (simp; done) | (simp [*]; done)), H', ⟨by have := HJ9.out; have := HJ26.out; first | omega | exact Nat.le_refl _⟩, ⟨by repeat (first | (with_reducible first | exact HB.out | apply below_alloc | apply pw_below_drewN | apply below_drew1) | exact HB.out)⟩⟩
                          · rw [if_neg c43] at H
                            have c43b0 : decide (0 < t131) = false := decide_eq_false c43
                            clear c43
                            by_cases c46 : t130 = 0
                            · rw [if_pos c46] at H
                              have c46b0 : (t130 == 0) = true := beq_iff_eq.mpr c46
                              have c46b1 : (t130 != 0) = false := bne_eq_false_iff_eq.mpr c46
                              clear c46
                              by_cases c47 : t131 = 0
                              · rw [if_pos c47] at H
                                have c47b0 : (t131 == 0) = true := beq_iff_eq.mpr c47
                                have c47b1 : (t131 != 0) = false := bne_eq_false_iff_eq.mpr c47
                                clear c47
                                have H' := Aside0.mk H
                                clear H
                                go_wp2
                                go_meet
                                case rel => exact ⟨_, ((t132 != 0)), (by first | rfl | (simp; done) | (simp [*]; done)), H', ⟨by have := HJ9.out; have := HJ26.out; first | omega | exact Nat.le_refl _⟩, ⟨by repeat (first | (with_reducible first | exact HB.out | apply below_alloc | apply pw_below_drewN | apply below_drew1) | exact HB.out)⟩⟩
                              · rw [if_neg c47] at H
                                have c47b0 : (t131 == 0) = false := beq_eq_false_iff_ne.mpr c47
                                have c47b1 : (t131 != 0) = true := bne_iff_ne.mpr c47
                                have H' := Aside0.mk H
                                clear H
                                go_wp2
                                go_meet
                                case rel => exact ⟨_, (false), (by first | rfl | (simp; done) | (simp [*]; done)), H', ⟨by have := HJ9.out; have := HJ26.out; first | omega | exact Nat.le_refl _⟩, ⟨by repeat (first | (with_reducible first | exact HB.out | apply below_alloc | apply pw_below_drewN | apply below_drew1) | exact HB.out)⟩⟩
                            · rw [if_neg c46] at H
                              have c46b0 : (t130 == 0) = false := beq_eq_false_iff_ne.mpr c46
                              have c46b1 : (t130 != 0) = true := bne_iff_ne.mpr c46
                              have H' := Aside0.mk H
                              clear H
                              go_wp2
                              go_meet
                              case rel => exact ⟨_, (false), (by first | rfl | (simp; done) | (simp [*]; done)), H', ⟨by have := HJ9.out; have := HJ26.out; first | omega | exact Nat.le_refl _⟩, ⟨by repeat (first | (with_reducible first | exact HB.out | apply below_alloc | apply pw_below_drewN | apply below_drew1) | exact HB.out)⟩⟩
                        · rw [if_neg c42] at H
                          have c42b0 : decide (0 ≤ t130) = false := decide_eq_false c42
                          clear c42
                          by_cases c48 : t130 = 0
                          · rw [if_pos c48] at H
                            have c48b0 : (t130 == 0) = true := beq_iff_eq.mpr c48
                            have c48b1 : (t130 != 0) = false := bne_eq_false_iff_eq.mpr c48
                            clear c48
                            by_cases c49 : t131 = 0
                            · rw [if_pos c49] at H
                              have c49b0 : (t131 == 0) = true := beq_iff_eq.mpr c49
                              have c49b1 : (t131 != 0) = false := bne_eq_false_iff_eq.mpr c49
                              clear c49
                              have H' := Aside0.mk H
                              clear H
                              go_wp2
                              go_meet
                              case rel => exact ⟨_, ((t132 != 0)), (by first | rfl | (simp; done) | (simp [*]; done)), H', ⟨by have := HJ9.out; have := HJ26.out; first | omega | exact Nat.le_refl _⟩, ⟨by repeat (first | (with_reducible first | exact HB.out | apply below_alloc | apply pw_below_drewN | apply below_drew1) | exact HB.out)⟩⟩
                            · rw [if_neg c49] at H
                              have c49b0 : (t131 == 0) = false := beq_eq_false_iff_ne.mpr c49
                              have c49b1 : (t131 != 0) = true := bne_iff_ne.mpr c49
                              have H' := Aside0.mk H
                              clear H
                              go_wp2
                              go_meet
                              case rel => exact ⟨_, (false), (by first | rfl | (simp; done) | (simp [*]; done)), H', ⟨by have := HJ9.out; have := HJ26.out; first | omega | exact Nat.le_refl _⟩, ⟨by repeat (first | (with_reducible first | exact HB.out | apply below_alloc | apply pw_below_drewN | apply below_drew1) | exact HB.out)⟩⟩
                          · rw [if_neg c48] at H
                            have c48b0 : (t130 == 0) = false := beq_eq_false_iff_ne.mpr c48
                            have c48b1 : (t130 != 0) = true := bne_iff_ne.mpr c48
                            have H' := Aside0.mk H
                            clear H
                            go_wp2
                            go_meet
                            case rel => exact ⟨_, (false), (by first | rfl | (simp; done) | (simp [*]; done)), H', ⟨by have := HJ9.out; have := HJ26.out; first | omega | exact Nat.le_refl _⟩, ⟨by repeat (first | (with_reducible first | exact HB.out | apply below_alloc | apply pw_below_drewN | apply below_drew1) | exact HB.out)⟩⟩
                    · rw [if_neg c40] at H
                      have c40b0 : decide (0 ≤ t131) = false := decide_eq_false c40
                      clear c40
                      by_cases c50 : t130 ≥ 0
                      · rw [if_pos c50] at H
                        have c50b0 : decide (0 ≤ t130) = true := decide_eq_true c50
                        clear c50
                        by_cases c51 : t131 > 0
                        · rw [if_pos c51] at H
                          have c51b0 : decide (0 < t131) = true := decide_eq_true c51
                          clear c51
                          by_cases c52 : t132 ≤ 0
                          · rw [if_pos c52] at H
                            have c52b0 : decide (t132 ≤ 0) = true := decide_eq_true c52
                            clear c52
                            have H' := Aside0.mk H
                            clear H
                            go_wp2
                            go_meet
                            case rel => exact ⟨_, (true), (by first | rfl | (simp; done) | (simp [*]; done)), H', ⟨by have := HJ9.out; have := HJ26.out; first | omega | exact Nat.le_refl _⟩, ⟨by repeat (first | (with_reducible first | exact HB.out | apply below_alloc | apply pw_below_drewN | apply below_drew1) | exact HB.out)⟩⟩
                          · rw [if_neg c52] at H
                            have c52b0 : decide (t132 ≤ 0) = false := decide_eq_false c52
                            clear c52
                            by_cases c53 : t130 = 0
                            · rw [if_pos c53] at H
                              have c53b0 : (t130 == 0) = true := beq_iff_eq.mpr c53
                              have c53b1 : (t130 != 0) = false := bne_eq_false_iff_eq.mpr c53
                              clear c53
                              by_cases c54 : t131 = 0
                              · rw [if_pos c54] at H
                                have c54b0 : (t131 == 0) = true := beq_iff_eq.mpr c54
                                have c54b1 : (t131 != 0) = false := bne_eq_false_iff_eq.mpr c54
                                clear c54
                                have H' := Aside0.mk H
                                clear H
                                go_wp2
                                go_meet
                                case rel => exact ⟨_, ((t132 != 0)), (by first | rfl | (simp; done) | (simp [*]; done)), H', ⟨by have := HJ9.out; have := HJ26.out; first | omega | exact Nat.le_refl _⟩, ⟨by repeat (first | (with_reducible first | exact HB.out | apply below_alloc | apply pw_below_drewN | apply below_drew1) | exact HB.out)⟩⟩
                              · rw [if_neg c54] at H
                                have c54b0 : (t131 == 0) = false := beq_eq_false_iff_ne.mpr c54
                                have c54b1 : (t131 != 0) = true := bne_iff_ne.mpr c54
                                have H' := Aside0.mk H
                                clear H
                                go_wp2
                                go_meet
                                case rel => exact ⟨_, (false), (by first | rfl | (simp; done) | (simp [*]; done)), H', ⟨by have := HJ9.out; have := HJ26.out; first | omega | exact Nat.le_refl _⟩, ⟨by repeat (first | (with_reducible first | exact HB.out | apply below_alloc | apply pw_below_drewN | apply below_drew1) | exact HB.out)⟩⟩
                            · rw [if_neg c53] at H
                              have c53b0 : (t130 == 0) = false := beq_eq_false_iff_ne.mpr c53
                              have c53b1 : (t130 != 0) = true := bne_iff_ne.mpr c53
                              have H' := Aside0.mk H
                              clear H
                              go_wp2
                              go_meet
                              case rel => exact ⟨_, (false), (by first | rfl | (simp; done) | (simp [*]; done)), H', ⟨by have := HJ9.out; have := HJ26.out; first | omega | exact Nat.le_refl _⟩, ⟨by repeat (first | (with_reducible first | exact HB.out | apply below_alloc | apply pw_below_drewN | apply below_drew1) | exact HB.out)⟩⟩
                        · rw [if_neg c51] at H
                          have c51b0 : decide (0 < t131) = false := decide_eq_false c51
                          clear c51
                          by_cases c55 : t130 = 0
                          · rw [if_pos c55] at H
                            have c55b0 : (t130 == 0) = true := beq_iff_eq.mpr c55
                            have c55b1 : (t130 != 0) = false := bne_eq_false_iff_eq.mpr c55
                            clear c55
                            by_cases c56 : t131 = 0
                            · rw [if_pos c56] at H
                              have c56b0 : (t131 == 0) = true := beq_iff_eq.mpr c56
                              have c56b1 : (t131 != 0) = false := bne_eq_false_iff_eq.mpr c56
                              clear c56
                              have H' := Aside0.mk H
                              clear H
                              go_wp2
                              go_meet
                              case rel => exact ⟨_, ((t132 != 0)), (by first | rfl | (simp; done) | (simp [*]; done)), H', ⟨by have := HJ9.out; have := HJ26.out; first | omega | exact Nat.le_refl _⟩, ⟨by repeat (first | (with_reducible first | exact HB.out | apply below_alloc | apply pw_below_drewN | apply below_drew1) | exact HB.out)⟩⟩
                            · rw [if_neg c56] at H
                              have c56b0 : (t131 == 0) = false := beq_eq_false_iff_ne.mpr c56
                              have c56b1 : (t131 != 0) = true := bne_iff_ne.mpr c56
                              have H' := Aside0.mk H
                              clear H
                              go_wp2
                              go_meet
                              case rel => exact ⟨_, (false), (by first | rfl | (simp; done) | (simp [*]; done)), H', ⟨by have := HJ9.out; have := HJ26.out; first | omega | exact Nat.le_refl _⟩, ⟨by repeat (first | (with_reducible first | exact HB.out | apply below_alloc | apply pw_below_drewN | apply below_drew1) | exact HB.out)⟩⟩
                          · rw [if_neg c55] at H
                            have c55b0 : (t130 == 0) = false := beq_eq_false_iff_ne.mpr c55
                            have c55b1 : (t130 != 0) = true := bne_iff_ne.mpr c55
                            have H' := Aside0.mk H
                            clear H
                            go_wp2
                            go_meet
                            case rel => exact ⟨_, (false), (by first | rfl | (simp; done) | (simp [*]; done)), H', ⟨by have := HJ9.out; have := HJ26.out; first | omega | exact Nat.le_refl _⟩, ⟨by repeat (first | (with_reducible first | exact HB.out | apply below_alloc | apply pw_below_drewN | apply below_drew1) | exact HB.out)⟩⟩
                      · rw [if_neg c50] at H
                        have c50b0 : decide (0 ≤ t130) = false := decide_eq_false c50
                        clear c50
                        by_cases c57 : t130 = 0
                        · rw [if_pos c57] at H
                          have c57b0 : (t130 == 0) = true := beq_iff_eq.mpr c57
                          have c57b1 : (t130 != 0) = false := bne_eq_false_iff_eq.mpr c57
                          clear c57
                          by_cases c58 : t131 = 0
                          · rw [if_pos c58] at H
                            have c58b0 : (t131 == 0) = true := beq_iff_eq.mpr c58
                            have c58b1 : (t131 != 0) = false := bne_eq_false_iff_eq.mpr c58
                            clear c58
                            have H' := Aside0.mk H
                            clear H
                            go_wp2
                            go_meet
                            case rel => exact ⟨_, ((t132 != 0)), (by first | rfl | (simp; done) | (simp [*]; done)), H', ⟨by have := HJ9.out; have := HJ26.out; first | omega | exact Nat.le_refl _⟩, ⟨by repeat (first | (with_reducible first | exact HB.out | apply below_alloc | apply pw_below_drewN | apply below_drew1) | exact HB.out)⟩⟩
                          · rw [if_neg c58] at H
                            have c58b0 : (t131 == 0) = false := beq_eq_false_iff_ne.mpr c58
                            have c58b1 : (t131 != 0) = true := bne_iff_ne.mpr c58
                            have H' := Aside0.mk H
                            clear H
                            go_wp2
                            go_meet
                            case rel => exact ⟨_, (false), (by first | rfl | (simp; done) | (simp [*]; done)), H', ⟨by have := HJ9.out; have := HJ26.out; first | omega | exact Nat.le_refl _⟩, ⟨by repeat (first | (with_reducible first | exact HB.out | apply below_alloc | apply pw_below_drewN | apply below_drew1) | exact HB.out)⟩⟩
                        · rw [if_neg c57] at H
                          have c57b0 : (t130 == 0) = false := beq_eq_false_iff_ne.mpr c57
                          have c57b1 : (t130 != 0) = true := bne_iff_ne.mpr c57
                          have H' := Aside0.mk H
                          clear H
                          go_wp2
                          go_meet
                          case rel => exact ⟨_, (false), (by first | rfl | (simp; done) | (simp [*]; done)), H', ⟨by have := HJ9.out; have := HJ26.out; first | omega | exact Nat.le_refl _⟩, ⟨by repeat (first | (with_reducible first | exact HB.out | apply below_alloc | apply pw_below_drewN | apply below_drew1) | exact HB.out)⟩⟩
                  · rw [if_neg c39] at H
                    have c39b0 : decide (0 < t130) = false := decide_eq_false c39
                    clear c39
                    (first | rw [c39b0] | (simp only [i64_w, i32_w]; rw [c39b0]) | skip)
                    by_cases c59 : t130 ≥ 0
                    · rw [if_pos c59] at H
                      have c59b0 : decide (0 ≤ t130) = true := decide_eq_true c59
                      clear c59
                      by_cases c60 : t131 > 0
                      · rw [if_pos c60] at H
                        have c60b0 : decide (0 < t131) = true := decide_eq_true c60
                        clear c60
                        by_cases c61 : t132 ≤ 0
                        · rw [if_pos c61] at H
                          have c61b0 : decide (t132 ≤ 0) = true := decide_eq_true c61
                          clear c61
                          have H' := Aside0.mk H
                          clear H
                          go_wp2
                          go_meet
                          case rel => exact ⟨_, (true), (by first | rfl | (simp; done) | (simp [*]; done)), H', ⟨by have := HJ9.out; have := HJ26.out; first | omega | exact Nat.le_refl _⟩, ⟨by repeat (first | (with_reducible first | exact HB.out | apply below_alloc | apply pw_below_drewN | apply below_drew1) | exact HB.out)⟩⟩
                        · rw [if_neg c61] at H
                          have c61b0 : decide (t132 ≤ 0) = false := decide_eq_false c61
                          clear c61
                          by_cases c62 : t130 = 0
                          · rw [if_pos c62] at H
                            have c62b0 : (t130 == 0) = true := beq_iff_eq.mpr c62
                            have c62b1 : (t130 != 0) = false := bne_eq_false_iff_eq.mpr c62
                            clear c62
                            by_cases c63 : t131 = 0
                            · rw [if_pos c63] at H
                              have c63b0 : (t131 == 0) = true := beq_iff_eq.mpr c63
                              have c63b1 : (t131 != 0) = false := bne_eq_false_iff_eq.mpr c63
                              clear c63
                              have H' := Aside0.mk H
                              clear H
                              go_wp2
                              go_meet
                              case rel => exact ⟨_, ((t132 != 0)), (by first | rfl | (simp; done) | (simp [*]; done)), H', ⟨by have := HJ9.out; have := HJ26.out; first | omega | exact Nat.le_refl _⟩, ⟨by repeat (first | (with_reducible first | exact HB.out | apply below_alloc | apply pw_below_drewN | apply below_drew1) | exact HB.out)⟩⟩
                            · rw [if_neg c63] at H
                              have c63b0 : (t131 == 0) = false := beq_eq_false_iff_ne.mpr c63
                              have c63b1 : (t131 != 0) = true := bne_iff_ne.mpr c63
                              have H' := Aside0.mk H
                              clear H
                              go_wp2
                              go_meet
                              case rel => exact ⟨_, (false), (by first | rfl | (simp; done) | (simp [*]; done)), H', ⟨by have := HJ9.out; have := HJ26.out; first | omega | exact Nat.le_refl _⟩, ⟨by repeat (first | (with_reducible first | exact HB.out | apply below_alloc | apply pw_below_drewN | apply below_drew1) | exact HB.out)⟩⟩
                          · rw [if_neg c62] at H
                            have c62b0 : (t130 == 0) = false := beq_eq_false_iff_ne.mpr c62
                            have c62b1 : (t130 != 0) = true := bne_iff_ne.mpr c62
                            have H' := Aside0.mk H
                            clear H
                            go_wp2
                            go_meet
                            case rel => exact ⟨_, (false), (by first | rfl | (simp; done) | (simp [*]; done)), H', ⟨by have := HJ9.out; have := HJ26.out; first | omega | exact Nat.le_refl _⟩, ⟨by repeat (first | (with_reducible first | exact HB.out | apply below_alloc | apply pw_below_drewN | apply below_drew1) | exact HB.out)⟩⟩
                      · rw [if_neg c60] at H
                        have c60b0 : decide (0 < t131) = false := decide_eq_false c60
                        clear c60
                        by_cases c64 : t130 = 0
                        · rw [if_pos c64] at H
                          have c64b0 : (t130 == 0) = true := beq_iff_eq.mpr c64
                          have c64b1 : (t130 != 0) = false := bne_eq_false_iff_eq.mpr c64
                          clear c64
                          by_cases c65 : t131 = 0
                          · rw [if_pos c65] at H
                            have c65b0 : (t131 == 0) = true := beq_iff_eq.mpr c65
                            have c65b1 : (t131 != 0) = false := bne_eq_false_iff_eq.mpr c65
                            clear c65
                            have H' := Aside0.mk H
                            clear H
                            go_wp2
                            go_meet
                            case rel => exact ⟨_, ((t132 != 0)), (by first | rfl | (simp; done) | (simp [*]; done)), H', ⟨by have := HJ9.out; have := HJ26.out; first | omega | exact Nat.le_refl _⟩, ⟨by repeat (first | (with_reducible first | exact HB.out | apply below_alloc | apply pw_below_drewN | apply below_drew1) | exact HB.out)⟩⟩
                          · rw [if_neg c65] at H
                            have c65b0 : (t131 == 0) = false := beq_eq_false_iff_ne.mpr c65
                            have c65b1 : (t131 != 0) = true := bne_iff_ne.mpr c65
                            have H' := Aside0.mk H
                            clear H
                            go_wp2
                            go_meet
                            case rel => exact ⟨_, (false), (by first | rfl | (simp; done) | (simp [*]; done)), H', ⟨by have := HJ9.out; have := HJ26.out; first | omega | exact Nat.le_refl _⟩, ⟨by repeat (first | (with_reducible first | exact HB.out | apply below_alloc | apply pw_below_drewN | apply below_drew1) | exact HB.out)⟩⟩
                        · rw [if_neg c64] at H
                          have c64b0 : (t130 == 0) = false := beq_eq_false_iff_ne.mpr c64
                          have c64b1 : (t130 != 0) = true := bne_iff_ne.mpr c64
                          have H' := Aside0.mk H
                          clear H
                          go_wp2
                          go_meet
                          case rel => exact ⟨_, (false), (by first | rfl | (simp; done) | (simp [*]; done)), H', ⟨by have := HJ9.out; have := HJ26.out; first | omega | exact Nat.le_refl _⟩, ⟨by repeat (first | (with_reducible first | exact HB.out | apply below_alloc | apply pw_below_drewN | apply below_drew1) | exact HB.out)⟩⟩
                    · rw [if_neg c59] at H
                      have c59b0 : decide (0 ≤ t130) = false := decide_eq_false c59
                      clear c59
                      by_cases c66 : t130 = 0
                      · rw [if_pos c66] at H
                        have c66b0 : (t130 == 0) = true := beq_iff_eq.mpr c66
                        have c66b1 : (t130 != 0) = false := bne_eq_false_iff_eq.mpr c66
                        clear c66
                        by_cases c67 : t131 = 0
                        · rw [if_pos c67] at H
                          have c67b0 : (t131 == 0) = true := beq_iff_eq.mpr c67
                          have c67b1 : (t131 != 0) = false := bne_eq_false_iff_eq.mpr c67
                          clear c67
                          have H' := Aside0.mk H
                          clear H
                          go_wp2
                          go_meet
                          case rel => exact ⟨_, ((t132 != 0)), (by first | rfl | (simp; done) | (simp [*]; done)), H', ⟨by have := HJ9.out; have := HJ26.out; first | omega | exact Nat.le_refl _⟩, ⟨by repeat (first | (with_reducible first | exact HB.out | apply below_alloc | apply pw_below_drewN | apply below_drew1) | exact HB.out)⟩⟩
                        · rw [if_neg c67] at H
                          have c67b0 : (t131 == 0) = false := beq_eq_false_iff_ne.mpr c67
                          have c67b1 : (t131 != 0) = true := bne_iff_ne.mpr c67
                          have H' := Aside0.mk H
                          clear H
                          go_wp2
                          go_meet
                          case rel => exact ⟨_, (false), (by first | rfl | (simp; done) | (simp [*]; done)), H', ⟨by have := HJ9.out; have := HJ26.out; first | omega | exact Nat.le_refl _⟩, ⟨by repeat (first | (with_reducible first | exact HB.out | apply below_alloc | apply pw_below_drewN | apply below_drew1) | exact HB.out)⟩⟩
                      · rw [if_neg c66] at H
                        have c66b0 : (t130 == 0) = false := beq_eq_false_iff_ne.mpr c66
                        have c66b1 : (t130 != 0) = true := bne_iff_ne.mpr c66
                        have H' := Aside0.mk H
                        clear H
                        go_wp2
                        go_meet
                        case rel => exact ⟨_, (false), (by first | rfl | (simp; done) | (simp [*]; done)), H', ⟨by have := HJ9.out; have := HJ26.out; first | omega | exact Nat.le_refl _⟩, ⟨by repeat (first | (with_reducible first | exact HB.out | apply below_alloc | apply pw_below_drewN | apply below_drew1) | exact HB.out)⟩⟩
                case rest =>
                  clear HC38
                  try clear c1
                  try clear c2
                  try clear p2
                  try clear c3
                  try clear c4
                  try clear c4b0
                  try clear c5
                  try clear c6
                  try clear p6
                  try clear c9
                  try clear c11
                  try clear c14
                  try clear c15
                  try clear c15b0
                  try clear c15b1
                  try clear c17
                  try clear c17b0
                  try clear c17b1
                  try clear c18
                  try clear c18b0
                  try clear c26
                  try clear c29
                  try clear c29b0
                  try clear c29b1
                  try clear c31
                  try clear c31b0
                  try clear c31b1
                  try clear c37
                  try clear c39
                  try clear c39b0
                  try clear c40
                  try clear c40b0
                  try clear c41
                  try clear c41b0
                  try clear c42
                  try clear c42b0
                  try clear c43
                  try clear c43b0
                  try clear c44
                  try clear c44b0
                  try clear c44b1
                  try clear c45
                  try clear c45b0
                  try clear c45b1
                  try clear c46
                  try clear c46b0
                  try clear c46b1
                  try clear c47
                  try clear c47b0
                  try clear c47b1
                  try clear c48
                  try clear c48b0
                  try clear c48b1
                  try clear c49
                  try clear c49b0
                  try clear c49b1
                  try clear c50
                  try clear c50b0
                  try clear c51
                  try clear c51b0
                  try clear c52
                  try clear c52b0
                  try clear c53
                  try clear c53b0
                  try clear c53b1
                  try clear c54
                  try clear c54b0
                  try clear c54b1
                  try clear c55
                  try clear c55b0
                  try clear c55b1
                  try clear c56
                  try clear c56b0
                  try clear c56b1
                  try clear c57
                  try clear c57b0
                  try clear c57b1
                  try clear c58
                  try clear c58b0
                  try clear c58b1
                  try clear c59
                  try clear c59b0
                  try clear c60
                  try clear c60b0
                  try clear c61
                  try clear c61b0
                  try clear c62
                  try clear c62b0
                  try clear c62b1
                  try clear c63
                  try clear c63b0
                  try clear c63b1
                  try clear c64
                  try clear c64b0
                  try clear c64b1
                  try clear p64
                  try clear c65
                  try clear c65b0
                  try clear c65b1
                  try clear c66
                  try clear c66b0
                  try clear c66b1
                  try clear c67
                  try clear c67b0
                  try clear c67b1
                  try clear p2
                  try clear p6
                  obtain ⟨kq, x98_37, rfl, HA, HJ37, HB⟩ := hcut
                  cases kq with
                  | zero => exact absurd HA.out (by simp [ciboriumlaw15_PathOrder.j2])
                  | succ kj37 =>
                    have H := HA.out
                    clear HA
                    simp only [ciboriumlaw15_PathOrder.j2] at H
                    by_cases c68 : x98_37 = true
                    · subst c68
                      have H1 : (some false) = some r := by rw [if_pos rfl] at H; exact H
                      clear H
                      have H := H1
                      clear H1
                      obtain rfl := Option.some.inj H
                      go_wp2
                      go_ret
                      exact ⟨by first | rfl | (simp [errW_none, errW_some] <;> rfl) | (simp [*, errW_none, errW_some] <;> rfl), by repeat (first | (with_reducible first | exact HB.out | apply below_alloc | apply pw_below_drewN | apply below_drew1) | exact HB.out)⟩
                    · replace c68 := Bool.eq_false_iff.mpr c68
                      subst c68
                      have H1 : ((path_Check.f a0).bind fun t137 => (if t137 = 0 then ((path_Check.f a1).bind fun t138 => (if t138 = 0 then ((ciboriumlaw15_works.f kj37).bind fun t139 => (some t139)) else (if t130 = 1 then ((ciboriumlaw15_works.f kj37).bind fun t140 => (some t140)) else (some false)))) else ((ciboriumlaw15_works.f kj37).bind fun t141 => (some t141)))) = some r := by rw [if_neg (show ¬ (false = true) by decide)] at H; exact H
                      clear H
                      have H := H1
                      clear H1
                      replace H := Option.bind_eq_some_iff.mp H
                      obtain ⟨t137, A690, H⟩ := H
                      replace H : (if t137 = 0 then ((path_Check.f a1).bind fun t138 => (if t138 = 0 then ((ciboriumlaw15_works.f kj37).bind fun t139 => (some t139)) else (if t130 = 1 then ((ciboriumlaw15_works.f kj37).bind fun t140 => (some t140)) else (some false)))) else ((ciboriumlaw15_works.f kj37).bind fun t141 => (some t141))) = some r := H
                      have A69 := Aside0.mk A690
                      clear A690
                      by_cases c70 : t137 = 0
                      · rw [if_pos c70] at H
                        have c70b0 : (t137 == 0) = true := beq_iff_eq.mpr c70
                        have c70b1 : (t137 != 0) = false := bne_eq_false_iff_eq.mpr c70
                        clear c70
                        replace H := Option.bind_eq_some_iff.mp H
                        obtain ⟨t138, A710, H⟩ := H
                        replace H : (if t138 = 0 then ((ciboriumlaw15_works.f kj37).bind fun t139 => (some t139)) else (if t130 = 1 then ((ciboriumlaw15_works.f kj37).bind fun t140 => (some t140)) else (some false))) = some r := H
                        have A71 := Aside0.mk A710
                        clear A710
                        by_cases c72 : t138 = 0
                        · rw [if_pos c72] at H
                          have c72b0 : (t138 == 0) = true := beq_iff_eq.mpr c72
                          have c72b1 : (t138 != 0) = false := bne_eq_false_iff_eq.mpr c72
                          clear c72
                          replace H := Option.bind_eq_some_iff.mp H
                          obtain ⟨t139, A730, H⟩ := H
                          replace H : (some t139) = some r := H
                          have A73 := Aside0.mk A730
                          clear A730
                          obtain rfl := Option.some.inj H
                          go_wp2_with (first | ((with_reducible refine gate_callee (f := 12) rfl ?_); refine goesL_ (some 100) rfl rfl Tryd.func12 (by kernel_rfl) rfl #[.string a0] rfl (by (try simp only [List.map_toArray, List.map_cons, List.map_nil]); first | done | rfl | (simp only [List.length_drop, List.length_take]; rfl)) ?_; (with_reducible refine (path_Check.calls a0 t137 _ A69.out).mono ?_); rintro e w74 ⟨rfl, hb⟩; refine ⟨_, rfl, ?_⟩; have n0_ := Aside0.mk (below_step (by repeat (first | (with_reducible first | exact HB.out | apply below_alloc | apply pw_below_drewN | apply below_drew1) | exact HB.out)) hb); clear HB; have HB := n0_; clear n0_; (try clear hb); (try clear hb2); (try clear hk); (try clear hi)) | (go_at_call 12; (with_reducible refine (path_Check.calls a1 t138 _ A71.out).mono ?_); rintro e w75 ⟨rfl, hb⟩; have n0_ := Aside0.mk (below_step (by repeat (first | (with_reducible first | exact HB.out | apply below_alloc | apply pw_below_drewN | apply below_drew1) | exact HB.out)) hb); clear HB; have HB := n0_; clear n0_; (try clear hb); (try clear hb2); (try clear hk); (try clear hi)) | (go_at_call 11; (with_reducible refine (ciboriumlaw15_works.calls kj37  t139 _ A73.out).mono ?_); rintro e w76 ⟨rfl, hb⟩; have n0_ := Aside0.mk (below_step (by repeat (first | (with_reducible first | exact HB.out | apply below_alloc | apply pw_below_drewN | apply below_drew1) | exact HB.out)) hb); clear HB; have HB := n0_; clear n0_; (try clear hb); (try clear hb2); (try clear hk); (try clear hi)))
                          go_ret
                          exact ⟨by first | rfl | (simp [errW_none, errW_some] <;> rfl) | (simp [*, errW_none, errW_some] <;> rfl), by repeat (first | (with_reducible first | exact HB.out | apply below_alloc | apply pw_below_drewN | apply below_drew1) | exact HB.out)⟩
                        · rw [if_neg c72] at H
                          have c72b0 : (t138 == 0) = false := beq_eq_false_iff_ne.mpr c72
                          have c72b1 : (t138 != 0) = true := bne_iff_ne.mpr c72
                          by_cases c77 : t130 = 1
                          · rw [if_pos c77] at H
                            have c77b0 : (t130 == 1) = true := beq_iff_eq.mpr c77
                            have c77b1 : (t130 != 1) = false := bne_eq_false_iff_eq.mpr c77
                            clear c77
                            replace H := Option.bind_eq_some_iff.mp H
                            obtain ⟨t140, A780, H⟩ := H
                            replace H : (some t140) = some r := H
                            have A78 := Aside0.mk A780
                            clear A780
                            obtain rfl := Option.some.inj H
                            go_wp2_with (first | ((with_reducible refine gate_callee (f := 12) rfl ?_); refine goesL_ (some 100) rfl rfl Tryd.func12 (by kernel_rfl) rfl #[.string a0] rfl (by (try simp only [List.map_toArray, List.map_cons, List.map_nil]); first | done | rfl | (simp only [List.length_drop, List.length_take]; rfl)) ?_; (with_reducible refine (path_Check.calls a0 t137 _ A69.out).mono ?_); rintro e w79 ⟨rfl, hb⟩; refine ⟨_, rfl, ?_⟩; have n0_ := Aside0.mk (below_step (by repeat (first | (with_reducible first | exact HB.out | apply below_alloc | apply pw_below_drewN | apply below_drew1) | exact HB.out)) hb); clear HB; have HB := n0_; clear n0_; (try clear hb); (try clear hb2); (try clear hk); (try clear hi)) | (go_at_call 12; (with_reducible refine (path_Check.calls a1 t138 _ A71.out).mono ?_); rintro e w80 ⟨rfl, hb⟩; have n0_ := Aside0.mk (below_step (by repeat (first | (with_reducible first | exact HB.out | apply below_alloc | apply pw_below_drewN | apply below_drew1) | exact HB.out)) hb); clear HB; have HB := n0_; clear n0_; (try clear hb); (try clear hb2); (try clear hk); (try clear hi)) | (go_at_call 11; (with_reducible refine (ciboriumlaw15_works.calls kj37  t140 _ A78.out).mono ?_); rintro e w81 ⟨rfl, hb⟩; have n0_ := Aside0.mk (below_step (by repeat (first | (with_reducible first | exact HB.out | apply below_alloc | apply pw_below_drewN | apply below_drew1) | exact HB.out)) hb); clear HB; have HB := n0_; clear n0_; (try clear hb); (try clear hb2); (try clear hk); (try clear hi)))
                            go_ret
                            exact ⟨by first | rfl | (simp [errW_none, errW_some] <;> rfl) | (simp [*, errW_none, errW_some] <;> rfl), by repeat (first | (with_reducible first | exact HB.out | apply below_alloc | apply pw_below_drewN | apply below_drew1) | exact HB.out)⟩
                          · rw [if_neg c77] at H
                            have c77b0 : (t130 == 1) = false := beq_eq_false_iff_ne.mpr c77
                            have c77b1 : (t130 != 1) = true := bne_iff_ne.mpr c77
                            obtain rfl := Option.some.inj H
                            go_wp2_with (first | ((with_reducible refine gate_callee (f := 12) rfl ?_); refine goesL_ (some 100) rfl rfl Tryd.func12 (by kernel_rfl) rfl #[.string a0] rfl (by (try simp only [List.map_toArray, List.map_cons, List.map_nil]); first | done | rfl | (simp only [List.length_drop, List.length_take]; rfl)) ?_; (with_reducible refine (path_Check.calls a0 t137 _ A69.out).mono ?_); rintro e w82 ⟨rfl, hb⟩; refine ⟨_, rfl, ?_⟩; have n0_ := Aside0.mk (below_step (by repeat (first | (with_reducible first | exact HB.out | apply below_alloc | apply pw_below_drewN | apply below_drew1) | exact HB.out)) hb); clear HB; have HB := n0_; clear n0_; (try clear hb); (try clear hb2); (try clear hk); (try clear hi)) | (go_at_call 12; (with_reducible refine (path_Check.calls a1 t138 _ A71.out).mono ?_); rintro e w83 ⟨rfl, hb⟩; have n0_ := Aside0.mk (below_step (by repeat (first | (with_reducible first | exact HB.out | apply below_alloc | apply pw_below_drewN | apply below_drew1) | exact HB.out)) hb); clear HB; have HB := n0_; clear n0_; (try clear hb); (try clear hb2); (try clear hk); (try clear hi)))
                            go_ret
                            exact ⟨by first | rfl | (simp [errW_none, errW_some] <;> rfl) | (simp [*, errW_none, errW_some] <;> rfl), by repeat (first | (with_reducible first | exact HB.out | apply below_alloc | apply pw_below_drewN | apply below_drew1) | exact HB.out)⟩
                      · rw [if_neg c70] at H
                        have c70b0 : (t137 == 0) = false := beq_eq_false_iff_ne.mpr c70
                        have c70b1 : (t137 != 0) = true := bne_iff_ne.mpr c70
                        replace H := Option.bind_eq_some_iff.mp H
                        obtain ⟨t141, A840, H⟩ := H
                        replace H : (some t141) = some r := H
                        have A84 := Aside0.mk A840
                        clear A840
                        obtain rfl := Option.some.inj H
                        go_wp2_with (first | ((with_reducible refine gate_callee (f := 12) rfl ?_); refine goesL_ (some 100) rfl rfl Tryd.func12 (by kernel_rfl) rfl #[.string a0] rfl (by (try simp only [List.map_toArray, List.map_cons, List.map_nil]); first | done | rfl | (simp only [List.length_drop, List.length_take]; rfl)) ?_; (with_reducible refine (path_Check.calls a0 t137 _ A69.out).mono ?_); rintro e w85 ⟨rfl, hb⟩; refine ⟨_, rfl, ?_⟩; have n0_ := Aside0.mk (below_step (by repeat (first | (with_reducible first | exact HB.out | apply below_alloc | apply pw_below_drewN | apply below_drew1) | exact HB.out)) hb); clear HB; have HB := n0_; clear n0_; (try clear hb); (try clear hb2); (try clear hk); (try clear hi)) | (go_at_call 11; (with_reducible refine (ciboriumlaw15_works.calls kj37  t141 _ A84.out).mono ?_); rintro e w86 ⟨rfl, hb⟩; have n0_ := Aside0.mk (below_step (by repeat (first | (with_reducible first | exact HB.out | apply below_alloc | apply pw_below_drewN | apply below_drew1) | exact HB.out)) hb); clear HB; have HB := n0_; clear n0_; (try clear hb); (try clear hb2); (try clear hk); (try clear hi)))
                        go_ret
                        exact ⟨by first | rfl | (simp [errW_none, errW_some] <;> rfl) | (simp [*, errW_none, errW_some] <;> rfl), by repeat (first | (with_reducible first | exact HB.out | apply below_alloc | apply pw_below_drewN | apply below_drew1) | exact HB.out)⟩

/-- THE ONE PURE STATEMENT of ciboriumlaw15_PathOrder: yours. -/
def ciboriumlaw15_PathOrder.Pure : Prop := ∀ (a0 : ByteArray) (a1 : ByteArray) (a2 : ByteArray), a0.size ≤ 140737488351232 → a1.size ≤ 140737488351232 → a2.size ≤ 140737488351232 → ∃ k, ciboriumlaw15_PathOrder.f k a0 a1 a2 = some true
theorem ciboriumlaw15_PathOrder.walk (P : ciboriumlaw15_PathOrder.Pure) (a0 : ByteArray) (a1 : ByteArray) (a2 : ByteArray) (w : World) (w0 : a0.size ≤ 140737488351232) (w1 : a1.size ≤ 140737488351232) (w2 : a2.size ≤ 140737488351232) :
    Calls Tryd.prog 9 #[.string a0, .string a1, .string a2] w fun e w' => e = .returned (.bool true) ∧ Below w.heap.size w w' := by
  obtain ⟨k, h⟩ := P a0 a1 a2 w0 w1 w2
  refine (ciboriumlaw15_PathOrder.calls k a0 a1 a2 true w h).mono ?_
  rintro e w' ⟨rfl, hd⟩
  exact ⟨rfl, hd⟩

end Go.Proofs.YtilhpgjohpekkaaDoor.PO
