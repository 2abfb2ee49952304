/- What is said here: what the Go functions named below answer, each as a plain function with the proof that its call comes to that answer; written by a program out of the translation. No condition. -/
import Derived.Test.YtaadeokgcacibaaPF3x0
import Derived.Test.YtaadeokgcacibaaPF3x1
namespace Go.Proofs.Ytaadeokgcacibaa.PF3
open Go.RowKit Go.Proofs.YtaadeokgcacibaaW.PrintWords Go.Proofs.YtaadeokgcacibaaW.PrintLast Go.Proofs.YtaadeokgcacibaaW.PrintMore
attribute [local go_sem] max2_int min2_int max_two min_two max_three min_three max_four min_four   -- for this text's walks alone
set_option linter.unusedVariables false
set_option linter.unusedSimpArgs false

/-! ### ciboriumlaw03_FieldLaws: function 5 -/
mutual
def ciboriumlaw03_FieldLaws.j0 : Nat → Int → Int → Int → Bool → Option (Bool)
  | 0, _, _, _, _ => none
  | k + 1, x0, x1, x2, x42 => if x42 = true then (some false) else ((field_Mul.f k x0 x1).bind fun t147 => ((field_Mul.f k x1 x0).bind fun t148 => (if t147 = t148 then ((field_Mul.f k x0 x1).bind fun t149 => ((field_Mul.f k t149 x2).bind fun t150 => ((field_Mul.f k x1 x2).bind fun t151 => ((field_Mul.f k x0 t151).bind fun t152 => (if t150 = t152 then ((field_Mul.f k x0 1).bind fun t153 => (if t153 = x0 then ((field_Mul.f k x0 0).bind fun t154 => (ciboriumlaw03_FieldLaws.j1 k x0 x1 x2 (t154 != 0))) else (ciboriumlaw03_FieldLaws.j1 k x0 x1 x2 true))) else (ciboriumlaw03_FieldLaws.j1 k x0 x1 x2 true)))))) else (ciboriumlaw03_FieldLaws.j1 k x0 x1 x2 true))))
def ciboriumlaw03_FieldLaws.j1 : Nat → Int → Int → Int → Bool → Option (Bool)
  | 0, _, _, _, _ => none
  | k + 1, x0, x1, x2, x73 => if x73 = true then (some false) else ((field_Add.f x1 x2).bind fun t155 => ((field_Mul.f k x0 t155).bind fun t156 => ((field_Mul.f k x0 x1).bind fun t157 => ((field_Mul.f k x0 x2).bind fun t158 => ((field_Add.f t157 t158).bind fun t159 => (if t156 = t159 then (if x0 = 0 then ((field_Inv.f x0).bind fun t160 => ((field_Inv.f t160).bind fun t161 => (ciboriumlaw03_FieldLaws.j2 k x0 x1 (t161 != x0)))) else ((field_Inv.f x0).bind fun t162 => ((field_Mul.f k x0 t162).bind fun t163 => (if t163 = 1 then ((field_Inv.f x0).bind fun t164 => ((field_Inv.f t164).bind fun t165 => (ciboriumlaw03_FieldLaws.j2 k x0 x1 (t165 != x0)))) else (ciboriumlaw03_FieldLaws.j2 k x0 x1 true))))) else (some false)))))))
def ciboriumlaw03_FieldLaws.j2 : Nat → Int → Int → Bool → Option (Bool)
  | 0, _, _, _ => none
  | k + 1, x0, x1, x102 => if x102 = true then (some false) else ((field_Div.f k x0 x1).bind fun bt166 => (if x1 = 0 then (if bt166.2 = 30 then (if bt166.1 = 0 then ((ciboriumlaw03_works.f k).bind fun t168 => (some t168)) else (some false)) else (some false)) else ((field_Mul.f k x0 x1).bind fun t169 => ((field_Div.f k t169 x1).bind fun bt170 => (if bt166.2 = 0 then (if bt170.2 = 0 then ((field_Mul.f k bt166.1 x1).bind fun t172 => (if t172 = x0 then (if bt170.1 = x0 then ((ciboriumlaw03_works.f k).bind fun t173 => (some t173)) else (some false)) else (some false))) else (some false)) else (some false))))))
end
def ciboriumlaw03_FieldLaws.f (k : Nat) (a0 : Int) (a1 : Int) (a2 : Int) : Option (Bool) := (field_Add.f a0 a1).bind fun t139 => ((field_Add.f a1 a0).bind fun t140 => (if t139 = t140 then ((field_Add.f a0 a1).bind fun t141 => ((field_Add.f t141 a2).bind fun t142 => ((field_Add.f a1 a2).bind fun t143 => ((field_Add.f a0 t143).bind fun t144 => (if t142 = t144 then ((field_Add.f a0 a0).bind fun t145 => (if t145 = 0 then ((field_Add.f a0 0).bind fun t146 => (ciboriumlaw03_FieldLaws.j0 k a0 a1 a2 (t146 != a0))) else (ciboriumlaw03_FieldLaws.j0 k a0 a1 a2 true))) else (ciboriumlaw03_FieldLaws.j0 k a0 a1 a2 true)))))) else (ciboriumlaw03_FieldLaws.j0 k a0 a1 a2 true)))
theorem ciboriumlaw03_FieldLaws.mono_l : ∀ k, (∀ y0 y1 y2 y3, LeO (ciboriumlaw03_FieldLaws.j0 k y0 y1 y2 y3) (ciboriumlaw03_FieldLaws.j0 (k + 1) y0 y1 y2 y3)) ∧ (∀ y0 y1 y2 y3, LeO (ciboriumlaw03_FieldLaws.j1 k y0 y1 y2 y3) (ciboriumlaw03_FieldLaws.j1 (k + 1) y0 y1 y2 y3)) ∧ (∀ y0 y1 y2, LeO (ciboriumlaw03_FieldLaws.j2 k y0 y1 y2) (ciboriumlaw03_FieldLaws.j2 (k + 1) y0 y1 y2))
  | 0 => ⟨fun _ _ _ _ r h => by simp [ciboriumlaw03_FieldLaws.j0] at h, fun _ _ _ _ r h => by simp [ciboriumlaw03_FieldLaws.j1] at h, fun _ _ _ r h => by simp [ciboriumlaw03_FieldLaws.j2] at h⟩
  | k + 1 => by
    obtain ⟨ih0, ih1, ih2⟩ := ciboriumlaw03_FieldLaws.mono_l k
    refine ⟨?_, ?_, ?_⟩
    · intro y0 y1 y2 y3
      unfold ciboriumlaw03_FieldLaws.j0
      repeat' first
      | (with_reducible exact ih0 _ _ _ _)
      | (with_reducible exact ih1 _ _ _ _)
      | (with_reducible exact ih2 _ _ _)
      | (with_reducible exact ciboriumlaw03_works.mono _)
      | (with_reducible exact field_Div.mono _ _ _)
      | (with_reducible exact field_Mul.mono _ _ _)
      | (with_reducible exact LeO.refl _)
      | (with_reducible exact LeO.none _)
      | (with_reducible refine LeO.ite ?_ ?_)
      | (with_reducible refine LeO.bind ?_ (fun _ => ?_))
      | exact ih0 _ _ _ _
      | exact ih1 _ _ _ _
      | exact ih2 _ _ _
      | exact ciboriumlaw03_works.mono _
      | exact field_Div.mono _ _ _
      | exact field_Mul.mono _ _ _
      | exact LeO.none _
      | refine LeO.ite ?_ ?_
      | refine LeO.bind ?_ (fun _ => ?_)
    · intro y0 y1 y2 y3
      unfold ciboriumlaw03_FieldLaws.j1
      repeat' first
      | (with_reducible exact ih0 _ _ _ _)
      | (with_reducible exact ih1 _ _ _ _)
      | (with_reducible exact ih2 _ _ _)
      | (with_reducible exact ciboriumlaw03_works.mono _)
      | (with_reducible exact field_Div.mono _ _ _)
      | (with_reducible exact field_Mul.mono _ _ _)
      | (with_reducible exact LeO.refl _)
      | (with_reducible exact LeO.none _)
      | (with_reducible refine LeO.ite ?_ ?_)
      | (with_reducible refine LeO.bind ?_ (fun _ => ?_))
      | exact ih0 _ _ _ _
      | exact ih1 _ _ _ _
      | exact ih2 _ _ _
      | exact ciboriumlaw03_works.mono _
      | exact field_Div.mono _ _ _
      | exact field_Mul.mono _ _ _
      | exact LeO.none _
      | refine LeO.ite ?_ ?_
      | refine LeO.bind ?_ (fun _ => ?_)
    · intro y0 y1 y2
      unfold ciboriumlaw03_FieldLaws.j2
      repeat' first
      | (with_reducible exact ih0 _ _ _ _)
      | (with_reducible exact ih1 _ _ _ _)
      | (with_reducible exact ih2 _ _ _)
      | (with_reducible exact ciboriumlaw03_works.mono _)
      | (with_reducible exact field_Div.mono _ _ _)
      | (with_reducible exact field_Mul.mono _ _ _)
      | (with_reducible exact LeO.refl _)
      | (with_reducible exact LeO.none _)
      | (with_reducible refine LeO.ite ?_ ?_)
      | (with_reducible refine LeO.bind ?_ (fun _ => ?_))
      | exact ih0 _ _ _ _
      | exact ih1 _ _ _ _
      | exact ih2 _ _ _
      | exact ciboriumlaw03_works.mono _
      | exact field_Div.mono _ _ _
      | exact field_Mul.mono _ _ _
      | exact LeO.none _
      | refine LeO.ite ?_ ?_
      | refine LeO.bind ?_ (fun _ => ?_)
theorem ciboriumlaw03_FieldLaws.mono : ∀ a0 a1 a2 k, LeO (ciboriumlaw03_FieldLaws.f k a0 a1 a2) (ciboriumlaw03_FieldLaws.f (k + 1) a0 a1 a2) := by
  intro a0 a1 a2 k
  obtain ⟨ih0, ih1, ih2⟩ := ciboriumlaw03_FieldLaws.mono_l k
  unfold ciboriumlaw03_FieldLaws.f
  repeat' first
      | (with_reducible exact ih0 _ _ _ _)
      | (with_reducible exact ih1 _ _ _ _)
      | (with_reducible exact ih2 _ _ _)
      | (with_reducible exact ciboriumlaw03_works.mono _)
      | (with_reducible exact field_Div.mono _ _ _)
      | (with_reducible exact field_Mul.mono _ _ _)
      | (with_reducible exact LeO.refl _)
      | (with_reducible exact LeO.none _)
      | (with_reducible refine LeO.ite ?_ ?_)
      | (with_reducible refine LeO.bind ?_ (fun _ => ?_))
      | exact ih0 _ _ _ _
      | exact ih1 _ _ _ _
      | exact ih2 _ _ _
      | exact ciboriumlaw03_works.mono _
      | exact field_Div.mono _ _ _
      | exact field_Mul.mono _ _ _
      | exact LeO.none _
      | refine LeO.ite ?_ ?_
      | refine LeO.bind ?_ (fun _ => ?_)
set_option maxHeartbeats 8000000 in
set_option maxRecDepth 100000 in
theorem ciboriumlaw03_FieldLaws.calls (k : Nat) (a0 : Int) (a1 : Int) (a2 : Int) (r : Bool) (w : World) (h : ciboriumlaw03_FieldLaws.f k a0 a1 a2 = some r) :
    Calls Try.prog 5 #[.int .u8 a0, .int .u8 a1, .int .u8 a2] w fun e w' => e = .returned (.bool r) ∧ Below w.heap.size w w' := by
  have HB := Aside0.mk (Below.refl w.heap.size w)
  have H : ((field_Add.f a0 a1).bind fun t139 => ((field_Add.f a1 a0).bind fun t140 => (if t139 = t140 then ((field_Add.f a0 a1).bind fun t141 => ((field_Add.f t141 a2).bind fun t142 => ((field_Add.f a1 a2).bind fun t143 => ((field_Add.f a0 t143).bind fun t144 => (if t142 = t144 then ((field_Add.f a0 a0).bind fun t145 => (if t145 = 0 then ((field_Add.f a0 0).bind fun t146 => (ciboriumlaw03_FieldLaws.j0 k a0 a1 a2 (t146 != a0))) else (ciboriumlaw03_FieldLaws.j0 k a0 a1 a2 true))) else (ciboriumlaw03_FieldLaws.j0 k a0 a1 a2 true)))))) else (ciboriumlaw03_FieldLaws.j0 k a0 a1 a2 true)))) = some r := h
  clear h
  have HC4 := Aside0.mk H
  clear H
  go_enter Try.func5, Try.ntmps5
  go_upto_region 1 with (fail)
  go_cut [42] (fun v42 wc => ∃ (kq : Nat) (x42_3 : Bool), v42 = .bool x42_3 ∧ Aside0 (ciboriumlaw03_FieldLaws.j0 kq a0 a1 a2 x42_3 = some r) ∧ Aside0 (kq ≤ k) ∧ Aside0 (Below w.heap.size w wc))
  case first =>
    have H := HC4.out
    clear HC4
    replace H := Option.bind_eq_some_iff.mp H
    obtain ⟨t139, A50, H⟩ := H
    replace H : ((field_Add.f a1 a0).bind fun t140 => (if t139 = t140 then ((field_Add.f a0 a1).bind fun t141 => ((field_Add.f t141 a2).bind fun t142 => ((field_Add.f a1 a2).bind fun t143 => ((field_Add.f a0 t143).bind fun t144 => (if t142 = t144 then ((field_Add.f a0 a0).bind fun t145 => (if t145 = 0 then ((field_Add.f a0 0).bind fun t146 => (ciboriumlaw03_FieldLaws.j0 k a0 a1 a2 (t146 != a0))) else (ciboriumlaw03_FieldLaws.j0 k a0 a1 a2 true))) else (ciboriumlaw03_FieldLaws.j0 k a0 a1 a2 true)))))) else (ciboriumlaw03_FieldLaws.j0 k a0 a1 a2 true))) = some r := H
    have A5 := Aside0.mk A50
    clear A50
    replace H := Option.bind_eq_some_iff.mp H
    obtain ⟨t140, A60, H⟩ := H
    replace H : (if t139 = t140 then ((field_Add.f a0 a1).bind fun t141 => ((field_Add.f t141 a2).bind fun t142 => ((field_Add.f a1 a2).bind fun t143 => ((field_Add.f a0 t143).bind fun t144 => (if t142 = t144 then ((field_Add.f a0 a0).bind fun t145 => (if t145 = 0 then ((field_Add.f a0 0).bind fun t146 => (ciboriumlaw03_FieldLaws.j0 k a0 a1 a2 (t146 != a0))) else (ciboriumlaw03_FieldLaws.j0 k a0 a1 a2 true))) else (ciboriumlaw03_FieldLaws.j0 k a0 a1 a2 true)))))) else (ciboriumlaw03_FieldLaws.j0 k a0 a1 a2 true)) = some r := H
    have A6 := Aside0.mk A60
    clear A60
    by_cases c7 : t139 = t140
    · rw [if_pos c7] at H
      have c7b0 : (t139 == t140) = true := beq_iff_eq.mpr c7
      have c7b1 : (t139 != t140) = false := bne_eq_false_iff_eq.mpr c7
      clear c7
      (first | rw [c7b0] | (simp only [i64_w, i32_w]; rw [c7b0]) | skip)
      replace H := Option.bind_eq_some_iff.mp H
      obtain ⟨t141, A80, H⟩ := H
      replace H : ((field_Add.f t141 a2).bind fun t142 => ((field_Add.f a1 a2).bind fun t143 => ((field_Add.f a0 t143).bind fun t144 => (if t142 = t144 then ((field_Add.f a0 a0).bind fun t145 => (if t145 = 0 then ((field_Add.f a0 0).bind fun t146 => (ciboriumlaw03_FieldLaws.j0 k a0 a1 a2 (t146 != a0))) else (ciboriumlaw03_FieldLaws.j0 k a0 a1 a2 true))) else (ciboriumlaw03_FieldLaws.j0 k a0 a1 a2 true))))) = some r := H
      have A8 := Aside0.mk A80
      clear A80
      replace H := Option.bind_eq_some_iff.mp H
      obtain ⟨t142, A90, H⟩ := H
      replace H : ((field_Add.f a1 a2).bind fun t143 => ((field_Add.f a0 t143).bind fun t144 => (if t142 = t144 then ((field_Add.f a0 a0).bind fun t145 => (if t145 = 0 then ((field_Add.f a0 0).bind fun t146 => (ciboriumlaw03_FieldLaws.j0 k a0 a1 a2 (t146 != a0))) else (ciboriumlaw03_FieldLaws.j0 k a0 a1 a2 true))) else (ciboriumlaw03_FieldLaws.j0 k a0 a1 a2 true)))) = some r := H
      have A9 := Aside0.mk A90
      clear A90
      replace H := Option.bind_eq_some_iff.mp H
      obtain ⟨t143, A100, H⟩ := H
      replace H : ((field_Add.f a0 t143).bind fun t144 => (if t142 = t144 then ((field_Add.f a0 a0).bind fun t145 => (if t145 = 0 then ((field_Add.f a0 0).bind fun t146 => (ciboriumlaw03_FieldLaws.j0 k a0 a1 a2 (t146 != a0))) else (ciboriumlaw03_FieldLaws.j0 k a0 a1 a2 true))) else (ciboriumlaw03_FieldLaws.j0 k a0 a1 a2 true))) = some r := H
      have A10 := Aside0.mk A100
      clear A100
      replace H := Option.bind_eq_some_iff.mp H
      obtain ⟨t144, A110, H⟩ := H
      replace H : (if t142 = t144 then ((field_Add.f a0 a0).bind fun t145 => (if t145 = 0 then ((field_Add.f a0 0).bind fun t146 => (ciboriumlaw03_FieldLaws.j0 k a0 a1 a2 (t146 != a0))) else (ciboriumlaw03_FieldLaws.j0 k a0 a1 a2 true))) else (ciboriumlaw03_FieldLaws.j0 k a0 a1 a2 true)) = some r := H
      have A11 := Aside0.mk A110
      clear A110
      by_cases c12 : t142 = t144
      · rw [if_pos c12] at H
        have c12b0 : (t142 == t144) = true := beq_iff_eq.mpr c12
        have c12b1 : (t142 != t144) = false := bne_eq_false_iff_eq.mpr c12
        clear c12
        replace H := Option.bind_eq_some_iff.mp H
        obtain ⟨t145, A130, H⟩ := H
        replace H : (if t145 = 0 then ((field_Add.f a0 0).bind fun t146 => (ciboriumlaw03_FieldLaws.j0 k a0 a1 a2 (t146 != a0))) else (ciboriumlaw03_FieldLaws.j0 k a0 a1 a2 true)) = some r := H
        have A13 := Aside0.mk A130
        clear A130
        by_cases c14 : t145 = 0
        · rw [if_pos c14] at H
          have c14b0 : (t145 == 0) = true := beq_iff_eq.mpr c14
          have c14b1 : (t145 != 0) = false := bne_eq_false_iff_eq.mpr c14
          clear c14
          replace H := Option.bind_eq_some_iff.mp H
          obtain ⟨t146, A150, H⟩ := H
          replace H : (ciboriumlaw03_FieldLaws.j0 k a0 a1 a2 (t146 != a0)) = some r := H
          have A15 := Aside0.mk A150
          clear A150
          have H' := Aside0.mk H
          clear H
          go_wp2_with (first | ((with_reducible refine gate_callee (f := 15) rfl ?_); refine goesL_ (some 13) rfl rfl Try.func15 (by kernel_rfl) rfl #[.int .u8 a0, .int .u8 a1] rfl (by (try simp only [List.map_toArray, List.map_cons, List.map_nil]); first | done | rfl | (simp only [List.length_drop, List.length_take]; rfl)) ?_; (with_reducible refine (field_Add.calls a0 a1 t139 _ A5.out).mono ?_); rintro e w' ⟨rfl, ⟨nd, rfl⟩⟩; refine ⟨_, rfl, ?_⟩) | ((with_reducible refine gate_callee (f := 15) rfl ?_); refine goesL_ (some 16) rfl rfl Try.func15 (by kernel_rfl) rfl #[.int .u8 a1, .int .u8 a0] rfl (by (try simp only [List.map_toArray, List.map_cons, List.map_nil]); first | done | rfl | (simp only [List.length_drop, List.length_take]; rfl)) ?_; (with_reducible refine (field_Add.calls a1 a0 t140 _ A6.out).mono ?_); rintro e w' ⟨rfl, ⟨nd, rfl⟩⟩; refine ⟨_, rfl, ?_⟩) | (go_at_call 15; (with_reducible refine (field_Add.calls a0 a1 t141 _ A8.out).mono ?_); rintro e w' ⟨rfl, ⟨nd, rfl⟩⟩) | (go_at_call 15; (with_reducible refine (field_Add.calls t141 a2 t142 _ A9.out).mono ?_); rintro e w' ⟨rfl, ⟨nd, rfl⟩⟩) | (go_at_call 15; (with_reducible refine (field_Add.calls a1 a2 t143 _ A10.out).mono ?_); rintro e w' ⟨rfl, ⟨nd, rfl⟩⟩) | (go_at_call 15; (with_reducible refine (field_Add.calls a0 t143 t144 _ A11.out).mono ?_); rintro e w' ⟨rfl, ⟨nd, rfl⟩⟩) | (go_at_call 15; (with_reducible refine (field_Add.calls a0 a0 t145 _ A13.out).mono ?_); rintro e w' ⟨rfl, ⟨nd, rfl⟩⟩) | (go_at_call 15; (with_reducible refine (field_Add.calls a0 0 t146 _ A15.out).mono ?_); rintro e w' ⟨rfl, ⟨nd, rfl⟩⟩))
          go_meet
          case rel => exact ⟨_, ((t146 != a0)), (by first | rfl | (simp; done) | (simp [*]; done)), H', ⟨by first | omega | exact Nat.le_refl _⟩, ⟨by repeat (first | (with_reducible first | exact HB.out | apply below_alloc | apply pw_below_drewN | apply below_drew1) | exact HB.out)⟩⟩
        · rw [if_neg c14] at H
          have c14b0 : (t145 == 0) = false := beq_eq_false_iff_ne.mpr c14
          have c14b1 : (t145 != 0) = true := bne_iff_ne.mpr c14
          have H' := Aside0.mk H
          clear H
          go_wp2_with (first | ((with_reducible refine gate_callee (f := 15) rfl ?_); refine goesL_ (some 13) rfl rfl Try.func15 (by kernel_rfl) rfl #[.int .u8 a0, .int .u8 a1] rfl (by (try simp only [List.map_toArray, List.map_cons, List.map_nil]); first | done | rfl | (simp only [List.length_drop, List.length_take]; rfl)) ?_; (with_reducible refine (field_Add.calls a0 a1 t139 _ A5.out).mono ?_); rintro e w' ⟨rfl, ⟨nd, rfl⟩⟩; refine ⟨_, rfl, ?_⟩) | ((with_reducible refine gate_callee (f := 15) rfl ?_); refine goesL_ (some 16) rfl rfl Try.func15 (by kernel_rfl) rfl #[.int .u8 a1, .int .u8 a0] rfl (by (try simp only [List.map_toArray, List.map_cons, List.map_nil]); first | done | rfl | (simp only [List.length_drop, List.length_take]; rfl)) ?_; (with_reducible refine (field_Add.calls a1 a0 t140 _ A6.out).mono ?_); rintro e w' ⟨rfl, ⟨nd, rfl⟩⟩; refine ⟨_, rfl, ?_⟩) | (go_at_call 15; (with_reducible refine (field_Add.calls a0 a1 t141 _ A8.out).mono ?_); rintro e w' ⟨rfl, ⟨nd, rfl⟩⟩) | (go_at_call 15; (with_reducible refine (field_Add.calls t141 a2 t142 _ A9.out).mono ?_); rintro e w' ⟨rfl, ⟨nd, rfl⟩⟩) | (go_at_call 15; (with_reducible refine (field_Add.calls a1 a2 t143 _ A10.out).mono ?_); rintro e w' ⟨rfl, ⟨nd, rfl⟩⟩) | (go_at_call 15; (with_reducible refine (field_Add.calls a0 t143 t144 _ A11.out).mono ?_); rintro e w' ⟨rfl, ⟨nd, rfl⟩⟩) | (go_at_call 15; (with_reducible refine (field_Add.calls a0 a0 t145 _ A13.out).mono ?_); rintro e w' ⟨rfl, ⟨nd, rfl⟩⟩))
          go_meet
          case rel => exact ⟨_, (true), (by first | rfl | (simp; done) | (simp [*]; done)), H', ⟨by first | omega | exact Nat.le_refl _⟩, ⟨by repeat (first | (with_reducible first | exact HB.out | apply below_alloc | apply pw_below_drewN | apply below_drew1) | exact HB.out)⟩⟩
      · rw [if_neg c12] at H
        have c12b0 : (t142 == t144) = false := beq_eq_false_iff_ne.mpr c12
        have c12b1 : (t142 != t144) = true := bne_iff_ne.mpr c12
        have H' := Aside0.mk H
        clear H
        go_wp2_with (first | ((with_reducible refine gate_callee (f := 15) rfl ?_); refine goesL_ (some 13) rfl rfl Try.func15 (by kernel_rfl) rfl #[.int .u8 a0, .int .u8 a1] rfl (by (try simp only [List.map_toArray, List.map_cons, List.map_nil]); first | done | rfl | (simp only [List.length_drop, List.length_take]; rfl)) ?_; (with_reducible refine (field_Add.calls a0 a1 t139 _ A5.out).mono ?_); rintro e w' ⟨rfl, ⟨nd, rfl⟩⟩; refine ⟨_, rfl, ?_⟩) | ((with_reducible refine gate_callee (f := 15) rfl ?_); refine goesL_ (some 16) rfl rfl Try.func15 (by kernel_rfl) rfl #[.int .u8 a1, .int .u8 a0] rfl (by (try simp only [List.map_toArray, List.map_cons, List.map_nil]); first | done | rfl | (simp only [List.length_drop, List.length_take]; rfl)) ?_; (with_reducible refine (field_Add.calls a1 a0 t140 _ A6.out).mono ?_); rintro e w' ⟨rfl, ⟨nd, rfl⟩⟩; refine ⟨_, rfl, ?_⟩) | (go_at_call 15; (with_reducible refine (field_Add.calls a0 a1 t141 _ A8.out).mono ?_); rintro e w' ⟨rfl, ⟨nd, rfl⟩⟩) | (go_at_call 15; (with_reducible refine (field_Add.calls t141 a2 t142 _ A9.out).mono ?_); rintro e w' ⟨rfl, ⟨nd, rfl⟩⟩) | (go_at_call 15; (with_reducible refine (field_Add.calls a1 a2 t143 _ A10.out).mono ?_); rintro e w' ⟨rfl, ⟨nd, rfl⟩⟩) | (go_at_call 15; (with_reducible refine (field_Add.calls a0 t143 t144 _ A11.out).mono ?_); rintro e w' ⟨rfl, ⟨nd, rfl⟩⟩))
        go_meet
        case rel => exact ⟨_, (true), (by first | rfl | (simp; done) | (simp [*]; done)), H', ⟨by first | omega | exact Nat.le_refl _⟩, ⟨by repeat (first | (with_reducible first | exact HB.out | apply below_alloc | apply pw_below_drewN | apply below_drew1) | exact HB.out)⟩⟩
    · rw [if_neg c7] at H
      have c7b0 : (t139 == t140) = false := beq_eq_false_iff_ne.mpr c7
      have c7b1 : (t139 != t140) = true := bne_iff_ne.mpr c7
      (first | rw [c7b0] | (simp only [i64_w, i32_w]; rw [c7b0]) | skip)
      have H' := Aside0.mk H
      clear H
      go_wp2_with (first | ((with_reducible refine gate_callee (f := 15) rfl ?_); refine goesL_ (some 13) rfl rfl Try.func15 (by kernel_rfl) rfl #[.int .u8 a0, .int .u8 a1] rfl (by (try simp only [List.map_toArray, List.map_cons, List.map_nil]); first | done | rfl | (simp only [List.length_drop, List.length_take]; rfl)) ?_; (with_reducible refine (field_Add.calls a0 a1 t139 _ A5.out).mono ?_); rintro e w' ⟨rfl, ⟨nd, rfl⟩⟩; refine ⟨_, rfl, ?_⟩) | ((with_reducible refine gate_callee (f := 15) rfl ?_); refine goesL_ (some 16) rfl rfl Try.func15 (by kernel_rfl) rfl #[.int .u8 a1, .int .u8 a0] rfl (by (try simp only [List.map_toArray, List.map_cons, List.map_nil]); first | done | rfl | (simp only [List.length_drop, List.length_take]; rfl)) ?_; (with_reducible refine (field_Add.calls a1 a0 t140 _ A6.out).mono ?_); rintro e w' ⟨rfl, ⟨nd, rfl⟩⟩; refine ⟨_, rfl, ?_⟩))
      go_meet
      case rel => exact ⟨_, (true), (by first | rfl | (simp; done) | (simp [*]; done)), H', ⟨by first | omega | exact Nat.le_refl _⟩, ⟨by repeat (first | (with_reducible first | exact HB.out | apply below_alloc | apply pw_below_drewN | apply below_drew1) | exact HB.out)⟩⟩
  case rest =>
    clear HC4
    try clear c1
    try clear p2
    try clear c5
    try clear c7
    try clear c7b0
    try clear c7b1
    try clear c12
    try clear c12b0
    try clear c12b1
    try clear c14
    try clear c14b0
    try clear c14b1
    try clear c15
    obtain ⟨kq, x42_3, rfl, HA, HJ3, HB⟩ := hcut
    cases kq with
    | zero => exact absurd HA.out (by simp [ciboriumlaw03_FieldLaws.j0])
    | succ kj3 =>
      have H := HA.out
      clear HA
      simp only [ciboriumlaw03_FieldLaws.j0] at H
      by_cases c16 : x42_3 = true
      · subst c16
        have H1 : (some false) = some r := by rw [if_pos rfl] at H; exact H
        clear H
        have H := H1
        clear H1
        obtain rfl := Option.some.inj H
        go_wp2
        go_ret
        exact ⟨by first | rfl | (simp [errW_none, errW_some] <;> rfl) | (simp [*, errW_none, errW_some] <;> rfl), by repeat (first | (with_reducible first | exact HB.out | apply below_alloc | apply pw_below_drewN | apply below_drew1) | exact HB.out)⟩
      · replace c16 := Bool.eq_false_iff.mpr c16
        subst c16
        have H1 : ((field_Mul.f kj3 a0 a1).bind fun t147 => ((field_Mul.f kj3 a1 a0).bind fun t148 => (if t147 = t148 then ((field_Mul.f kj3 a0 a1).bind fun t149 => ((field_Mul.f kj3 t149 a2).bind fun t150 => ((field_Mul.f kj3 a1 a2).bind fun t151 => ((field_Mul.f kj3 a0 t151).bind fun t152 => (if t150 = t152 then ((field_Mul.f kj3 a0 1).bind fun t153 => (if t153 = a0 then ((field_Mul.f kj3 a0 0).bind fun t154 => (ciboriumlaw03_FieldLaws.j1 kj3 a0 a1 a2 (t154 != 0))) else (ciboriumlaw03_FieldLaws.j1 kj3 a0 a1 a2 true))) else (ciboriumlaw03_FieldLaws.j1 kj3 a0 a1 a2 true)))))) else (ciboriumlaw03_FieldLaws.j1 kj3 a0 a1 a2 true)))) = some r := by rw [if_neg (show ¬ (false = true) by decide)] at H; exact H
        clear H
        have H := H1
        clear H1
        have HC17 := Aside0.mk H
        clear H
        go_upto_region 3 with (fail)
        go_cut [73] (fun v73 wc => ∃ (kq : Nat) (x73_16 : Bool), v73 = .bool x73_16 ∧ Aside0 (ciboriumlaw03_FieldLaws.j1 kq a0 a1 a2 x73_16 = some r) ∧ Aside0 (kq ≤ kj3) ∧ Aside0 (Below w.heap.size w wc))
        case first =>
          have H := HC17.out
          clear HC17
          replace H := Option.bind_eq_some_iff.mp H
          obtain ⟨t147, A180, H⟩ := H
          replace H : ((field_Mul.f kj3 a1 a0).bind fun t148 => (if t147 = t148 then ((field_Mul.f kj3 a0 a1).bind fun t149 => ((field_Mul.f kj3 t149 a2).bind fun t150 => ((field_Mul.f kj3 a1 a2).bind fun t151 => ((field_Mul.f kj3 a0 t151).bind fun t152 => (if t150 = t152 then ((field_Mul.f kj3 a0 1).bind fun t153 => (if t153 = a0 then ((field_Mul.f kj3 a0 0).bind fun t154 => (ciboriumlaw03_FieldLaws.j1 kj3 a0 a1 a2 (t154 != 0))) else (ciboriumlaw03_FieldLaws.j1 kj3 a0 a1 a2 true))) else (ciboriumlaw03_FieldLaws.j1 kj3 a0 a1 a2 true)))))) else (ciboriumlaw03_FieldLaws.j1 kj3 a0 a1 a2 true))) = some r := H
          have A18 := Aside0.mk A180
          clear A180
          replace H := Option.bind_eq_some_iff.mp H
          obtain ⟨t148, A190, H⟩ := H
          replace H : (if t147 = t148 then ((field_Mul.f kj3 a0 a1).bind fun t149 => ((field_Mul.f kj3 t149 a2).bind fun t150 => ((field_Mul.f kj3 a1 a2).bind fun t151 => ((field_Mul.f kj3 a0 t151).bind fun t152 => (if t150 = t152 then ((field_Mul.f kj3 a0 1).bind fun t153 => (if t153 = a0 then ((field_Mul.f kj3 a0 0).bind fun t154 => (ciboriumlaw03_FieldLaws.j1 kj3 a0 a1 a2 (t154 != 0))) else (ciboriumlaw03_FieldLaws.j1 kj3 a0 a1 a2 true))) else (ciboriumlaw03_FieldLaws.j1 kj3 a0 a1 a2 true)))))) else (ciboriumlaw03_FieldLaws.j1 kj3 a0 a1 a2 true)) = some r := H
          have A19 := Aside0.mk A190
          clear A190
          by_cases c20 : t147 = t148
          · rw [if_pos c20] at H
            have c20b0 : (t147 == t148) = true := beq_iff_eq.mpr c20
            have c20b1 : (t147 != t148) = false := bne_eq_false_iff_eq.mpr c20
            clear c20
            (first | rw [c20b0] | (simp only [i64_w, i32_w]; rw [c20b0]) | skip)
            replace H := Option.bind_eq_some_iff.mp H
            obtain ⟨t149, A210, H⟩ := H
            replace H : ((field_Mul.f kj3 t149 a2).bind fun t150 => ((field_Mul.f kj3 a1 a2).bind fun t151 => ((field_Mul.f kj3 a0 t151).bind fun t152 => (if t150 = t152 then ((field_Mul.f kj3 a0 1).bind fun t153 => (if t153 = a0 then ((field_Mul.f kj3 a0 0).bind fun t154 => (ciboriumlaw03_FieldLaws.j1 kj3 a0 a1 a2 (t154 != 0))) else (ciboriumlaw03_FieldLaws.j1 kj3 a0 a1 a2 true))) else (ciboriumlaw03_FieldLaws.j1 kj3 a0 a1 a2 true))))) = some r := H
            have A21 := Aside0.mk A210
            clear A210
            replace H := Option.bind_eq_some_iff.mp H
            obtain ⟨t150, A220, H⟩ := H
            replace H : ((field_Mul.f kj3 a1 a2).bind fun t151 => ((field_Mul.f kj3 a0 t151).bind fun t152 => (if t150 = t152 then ((field_Mul.f kj3 a0 1).bind fun t153 => (if t153 = a0 then ((field_Mul.f kj3 a0 0).bind fun t154 => (ciboriumlaw03_FieldLaws.j1 kj3 a0 a1 a2 (t154 != 0))) else (ciboriumlaw03_FieldLaws.j1 kj3 a0 a1 a2 true))) else (ciboriumlaw03_FieldLaws.j1 kj3 a0 a1 a2 true)))) = some r := H
            have A22 := Aside0.mk A220
            clear A220
            replace H := Option.bind_eq_some_iff.mp H
            obtain ⟨t151, A230, H⟩ := H
            replace H : ((field_Mul.f kj3 a0 t151).bind fun t152 => (if t150 = t152 then ((field_Mul.f kj3 a0 1).bind fun t153 => (if t153 = a0 then ((field_Mul.f kj3 a0 0).bind fun t154 => (ciboriumlaw03_FieldLaws.j1 kj3 a0 a1 a2 (t154 != 0))) else (ciboriumlaw03_FieldLaws.j1 kj3 a0 a1 a2 true))) else (ciboriumlaw03_FieldLaws.j1 kj3 a0 a1 a2 true))) = some r := H
            have A23 := Aside0.mk A230
            clear A230
            replace H := Option.bind_eq_some_iff.mp H
            obtain ⟨t152, A240, H⟩ := H
            replace H : (if t150 = t152 then ((field_Mul.f kj3 a0 1).bind fun t153 => (if t153 = a0 then ((field_Mul.f kj3 a0 0).bind fun t154 => (ciboriumlaw03_FieldLaws.j1 kj3 a0 a1 a2 (t154 != 0))) else (ciboriumlaw03_FieldLaws.j1 kj3 a0 a1 a2 true))) else (ciboriumlaw03_FieldLaws.j1 kj3 a0 a1 a2 true)) = some r := H
            have A24 := Aside0.mk A240
            clear A240
            by_cases c25 : t150 = t152
            · rw [if_pos c25] at H
              have c25b0 : (t150 == t152) = true := beq_iff_eq.mpr c25
              have c25b1 : (t150 != t152) = false := bne_eq_false_iff_eq.mpr c25
              clear c25
              replace H := Option.bind_eq_some_iff.mp H
              obtain ⟨t153, A260, H⟩ := H
              replace H : (if t153 = a0 then ((field_Mul.f kj3 a0 0).bind fun t154 => (ciboriumlaw03_FieldLaws.j1 kj3 a0 a1 a2 (t154 != 0))) else (ciboriumlaw03_FieldLaws.j1 kj3 a0 a1 a2 true)) = some r := H
              have A26 := Aside0.mk A260
              clear A260
              by_cases c27 : t153 = a0
              · rw [if_pos c27] at H
                have c27b0 : (t153 == a0) = true := beq_iff_eq.mpr c27
                have c27b1 : (t153 != a0) = false := bne_eq_false_iff_eq.mpr c27
                clear c27
                replace H := Option.bind_eq_some_iff.mp H
                obtain ⟨t154, A280, H⟩ := H
                replace H : (ciboriumlaw03_FieldLaws.j1 kj3 a0 a1 a2 (t154 != 0)) = some r := H
                have A28 := Aside0.mk A280
                clear A280
                have H' := Aside0.mk H
                clear H
                go_wp2_with (first | ((with_reducible refine gate_callee (f := 11) rfl ?_); refine goesL_ (some 45) rfl rfl Try.func11 (by kernel_rfl) rfl #[.int .u8 a0, .int .u8 a1] rfl (by (try simp only [List.map_toArray, List.map_cons, List.map_nil]); first | done | rfl | (simp only [List.length_drop, List.length_take]; rfl)) ?_; (with_reducible refine (field_Mul.calls kj3 a0 a1 t147 _ A18.out).mono ?_); rintro e w' ⟨rfl, ⟨nd, rfl⟩⟩; refine ⟨_, rfl, ?_⟩) | ((with_reducible refine gate_callee (f := 11) rfl ?_); refine goesL_ (some 48) rfl rfl Try.func11 (by kernel_rfl) rfl #[.int .u8 a1, .int .u8 a0] rfl (by (try simp only [List.map_toArray, List.map_cons, List.map_nil]); first | done | rfl | (simp only [List.length_drop, List.length_take]; rfl)) ?_; (with_reducible refine (field_Mul.calls kj3 a1 a0 t148 _ A19.out).mono ?_); rintro e w' ⟨rfl, ⟨nd, rfl⟩⟩; refine ⟨_, rfl, ?_⟩) | (go_at_call 11; (with_reducible refine (field_Mul.calls kj3 a0 a1 t149 _ A21.out).mono ?_); rintro e w' ⟨rfl, ⟨nd, rfl⟩⟩) | (go_at_call 11; (with_reducible refine (field_Mul.calls kj3 t149 a2 t150 _ A22.out).mono ?_); rintro e w' ⟨rfl, ⟨nd, rfl⟩⟩) | (go_at_call 11; (with_reducible refine (field_Mul.calls kj3 a1 a2 t151 _ A23.out).mono ?_); rintro e w' ⟨rfl, ⟨nd, rfl⟩⟩) | (go_at_call 11; (with_reducible refine (field_Mul.calls kj3 a0 t151 t152 _ A24.out).mono ?_); rintro e w' ⟨rfl, ⟨nd, rfl⟩⟩) | (go_at_call 11; (with_reducible refine (field_Mul.calls kj3 a0 1 t153 _ A26.out).mono ?_); rintro e w' ⟨rfl, ⟨nd, rfl⟩⟩) | (go_at_call 11; (with_reducible refine (field_Mul.calls kj3 a0 0 t154 _ A28.out).mono ?_); rintro e w' ⟨rfl, ⟨nd, rfl⟩⟩))
                go_meet
                case rel => exact ⟨_, ((t154 != 0)), (by first | rfl | (simp; done) | (simp [*]; done)), H', ⟨by have := HJ3.out; first | omega | exact Nat.le_refl _⟩, ⟨by repeat (first | (with_reducible first | exact HB.out | apply below_alloc | apply pw_below_drewN | apply below_drew1) | exact HB.out)⟩⟩
              · rw [if_neg c27] at H
                have c27b0 : (t153 == a0) = false := beq_eq_false_iff_ne.mpr c27
                have c27b1 : (t153 != a0) = true := bne_iff_ne.mpr c27
                have H' := Aside0.mk H
                clear H
                go_wp2_with (first | ((with_reducible refine gate_callee (f := 11) rfl ?_); refine goesL_ (some 45) rfl rfl Try.func11 (by kernel_rfl) rfl #[.int .u8 a0, .int .u8 a1] rfl (by (try simp only [List.map_toArray, List.map_cons, List.map_nil]); first | done | rfl | (simp only [List.length_drop, List.length_take]; rfl)) ?_; (with_reducible refine (field_Mul.calls kj3 a0 a1 t147 _ A18.out).mono ?_); rintro e w' ⟨rfl, ⟨nd, rfl⟩⟩; refine ⟨_, rfl, ?_⟩) | ((with_reducible refine gate_callee (f := 11) rfl ?_); refine goesL_ (some 48) rfl rfl Try.func11 (by kernel_rfl) rfl #[.int .u8 a1, .int .u8 a0] rfl (by (try simp only [List.map_toArray, List.map_cons, List.map_nil]); first | done | rfl | (simp only [List.length_drop, List.length_take]; rfl)) ?_; (with_reducible refine (field_Mul.calls kj3 a1 a0 t148 _ A19.out).mono ?_); rintro e w' ⟨rfl, ⟨nd, rfl⟩⟩; refine ⟨_, rfl, ?_⟩) | (go_at_call 11; (with_reducible refine (field_Mul.calls kj3 a0 a1 t149 _ A21.out).mono ?_); rintro e w' ⟨rfl, ⟨nd, rfl⟩⟩) | (go_at_call 11; (with_reducible refine (field_Mul.calls kj3 t149 a2 t150 _ A22.out).mono ?_); rintro e w' ⟨rfl, ⟨nd, rfl⟩⟩) | (go_at_call 11; (with_reducible refine (field_Mul.calls kj3 a1 a2 t151 _ A23.out).mono ?_); rintro e w' ⟨rfl, ⟨nd, rfl⟩⟩) | (go_at_call 11; (with_reducible refine (field_Mul.calls kj3 a0 t151 t152 _ A24.out).mono ?_); rintro e w' ⟨rfl, ⟨nd, rfl⟩⟩) | (go_at_call 11; (with_reducible refine (field_Mul.calls kj3 a0 1 t153 _ A26.out).mono ?_); rintro e w' ⟨rfl, ⟨nd, rfl⟩⟩))
                go_meet
                case rel => exact ⟨_, (true), (by first | rfl | (simp; done) | (simp [*]; done)), H', ⟨by have := HJ3.out; first | omega | exact Nat.le_refl _⟩, ⟨by repeat (first | (with_reducible first | exact HB.out | apply below_alloc | apply pw_below_drewN | apply below_drew1) | exact HB.out)⟩⟩
            · rw [if_neg c25] at H
              have c25b0 : (t150 == t152) = false := beq_eq_false_iff_ne.mpr c25
              have c25b1 : (t150 != t152) = true := bne_iff_ne.mpr c25
              have H' := Aside0.mk H
              clear H
              go_wp2_with (first | ((with_reducible refine gate_callee (f := 11) rfl ?_); refine goesL_ (some 45) rfl rfl Try.func11 (by kernel_rfl) rfl #[.int .u8 a0, .int .u8 a1] rfl (by (try simp only [List.map_toArray, List.map_cons, List.map_nil]); first | done | rfl | (simp only [List.length_drop, List.length_take]; rfl)) ?_; (with_reducible refine (field_Mul.calls kj3 a0 a1 t147 _ A18.out).mono ?_); rintro e w' ⟨rfl, ⟨nd, rfl⟩⟩; refine ⟨_, rfl, ?_⟩) | ((with_reducible refine gate_callee (f := 11) rfl ?_); refine goesL_ (some 48) rfl rfl Try.func11 (by kernel_rfl) rfl #[.int .u8 a1, .int .u8 a0] rfl (by (try simp only [List.map_toArray, List.map_cons, List.map_nil]); first | done | rfl | (simp only [List.length_drop, List.length_take]; rfl)) ?_; (with_reducible refine (field_Mul.calls kj3 a1 a0 t148 _ A19.out).mono ?_); rintro e w' ⟨rfl, ⟨nd, rfl⟩⟩; refine ⟨_, rfl, ?_⟩) | (go_at_call 11; (with_reducible refine (field_Mul.calls kj3 a0 a1 t149 _ A21.out).mono ?_); rintro e w' ⟨rfl, ⟨nd, rfl⟩⟩) | (go_at_call 11; (with_reducible refine (field_Mul.calls kj3 t149 a2 t150 _ A22.out).mono ?_); rintro e w' ⟨rfl, ⟨nd, rfl⟩⟩) | (go_at_call 11; (with_reducible refine (field_Mul.calls kj3 a1 a2 t151 _ A23.out).mono ?_); rintro e w' ⟨rfl, ⟨nd, rfl⟩⟩) | (go_at_call 11; (with_reducible refine (field_Mul.calls kj3 a0 t151 t152 _ A24.out).mono ?_); rintro e w' ⟨rfl, ⟨nd, rfl⟩⟩))
              go_meet
              case rel => exact ⟨_, (true), (by first | rfl | (simp; done) | (simp [*]; done)), H', ⟨by have := HJ3.out; first | omega | exact Nat.le_refl _⟩, ⟨by repeat (first | (with_reducible first | exact HB.out | apply below_alloc | apply pw_below_drewN | apply below_drew1) | exact HB.out)⟩⟩
          · rw [if_neg c20] at H
            have c20b0 : (t147 == t148) = false := beq_eq_false_iff_ne.mpr c20
            have c20b1 : (t147 != t148) = true := bne_iff_ne.mpr c20
            (first | rw [c20b0] | (simp only [i64_w, i32_w]; rw [c20b0]) | skip)
            have H' := Aside0.mk H
            clear H
            go_wp2_with (first | ((with_reducible refine gate_callee (f := 11) rfl ?_); refine goesL_ (some 45) rfl rfl Try.func11 (by kernel_rfl) rfl #[.int .u8 a0, .int .u8 a1] rfl (by (try simp only [List.map_toArray, List.map_cons, List.map_nil]); first | done | rfl | (simp only [List.length_drop, List.length_take]; rfl)) ?_; (with_reducible refine (field_Mul.calls kj3 a0 a1 t147 _ A18.out).mono ?_); rintro e w' ⟨rfl, ⟨nd, rfl⟩⟩; refine ⟨_, rfl, ?_⟩) | ((with_reducible refine gate_callee (f := 11) rfl ?_); refine goesL_ (some 48) rfl rfl Try.func11 (by kernel_rfl) rfl #[.int .u8 a1, .int .u8 a0] rfl (by (try simp only [List.map_toArray, List.map_cons, List.map_nil]); first | done | rfl | (simp only [List.length_drop, List.length_take]; rfl)) ?_; (with_reducible refine (field_Mul.calls kj3 a1 a0 t148 _ A19.out).mono ?_); rintro e w' ⟨rfl, ⟨nd, rfl⟩⟩; refine ⟨_, rfl, ?_⟩))
            go_meet
            case rel => exact ⟨_, (true), (by first | rfl | (simp; done) | (simp [*]; done)), H', ⟨by have := HJ3.out; first | omega | exact Nat.le_refl _⟩, ⟨by repeat (first | (with_reducible first | exact HB.out | apply below_alloc | apply pw_below_drewN | apply below_drew1) | exact HB.out)⟩⟩
        case rest =>
          clear HC17
          try clear c1
          try clear c2
          try clear p2
          try clear c5
          try clear c7
          try clear c7b0
          try clear c7b1
          try clear c11
          try clear c12
          try clear c12b0
          try clear c12b1
          try clear c14
          try clear c14b0
          try clear c14b1
          try clear c15
          try clear c16
          try clear c20
          try clear c20b0
          try clear c20b1
          try clear c25
          try clear c25b0
          try clear c25b1
          try clear c27
          try clear c27b0
          try clear c27b1
          try clear p2
          obtain ⟨kq, x73_16, rfl, HA, HJ16, HB⟩ := hcut
          cases kq with
          | zero => exact absurd HA.out (by simp [ciboriumlaw03_FieldLaws.j1])
          | succ kj16 =>
            have H := HA.out
            clear HA
            simp only [ciboriumlaw03_FieldLaws.j1] at H
            by_cases c29 : x73_16 = true
            · subst c29
              have H1 : (some false) = some r := by rw [if_pos rfl] at H; exact H
              clear H
              have H := H1
              clear H1
              obtain rfl := Option.some.inj H
              go_wp2
              go_ret
              exact ⟨by first | rfl | (simp [errW_none, errW_some] <;> rfl) | (simp [*, errW_none, errW_some] <;> rfl), by repeat (first | (with_reducible first | exact HB.out | apply below_alloc | apply pw_below_drewN | apply below_drew1) | exact HB.out)⟩
            · replace c29 := Bool.eq_false_iff.mpr c29
              subst c29
              have H1 : ((field_Add.f a1 a2).bind fun t155 => ((field_Mul.f kj16 a0 t155).bind fun t156 => ((field_Mul.f kj16 a0 a1).bind fun t157 => ((field_Mul.f kj16 a0 a2).bind fun t158 => ((field_Add.f t157 t158).bind fun t159 => (if t156 = t159 then (if a0 = 0 then ((field_Inv.f a0).bind fun t160 => ((field_Inv.f t160).bind fun t161 => (ciboriumlaw03_FieldLaws.j2 kj16 a0 a1 (t161 != a0)))) else ((field_Inv.f a0).bind fun t162 => ((field_Mul.f kj16 a0 t162).bind fun t163 => (if t163 = 1 then ((field_Inv.f a0).bind fun t164 => ((field_Inv.f t164).bind fun t165 => (ciboriumlaw03_FieldLaws.j2 kj16 a0 a1 (t165 != a0)))) else (ciboriumlaw03_FieldLaws.j2 kj16 a0 a1 true))))) else (some false))))))) = some r := by rw [if_neg (show ¬ (false = true) by decide)] at H; exact H
              clear H
              have H := H1
              clear H1
              replace H := Option.bind_eq_some_iff.mp H
              obtain ⟨t155, A300, H⟩ := H
              replace H : ((field_Mul.f kj16 a0 t155).bind fun t156 => ((field_Mul.f kj16 a0 a1).bind fun t157 => ((field_Mul.f kj16 a0 a2).bind fun t158 => ((field_Add.f t157 t158).bind fun t159 => (if t156 = t159 then (if a0 = 0 then ((field_Inv.f a0).bind fun t160 => ((field_Inv.f t160).bind fun t161 => (ciboriumlaw03_FieldLaws.j2 kj16 a0 a1 (t161 != a0)))) else ((field_Inv.f a0).bind fun t162 => ((field_Mul.f kj16 a0 t162).bind fun t163 => (if t163 = 1 then ((field_Inv.f a0).bind fun t164 => ((field_Inv.f t164).bind fun t165 => (ciboriumlaw03_FieldLaws.j2 kj16 a0 a1 (t165 != a0)))) else (ciboriumlaw03_FieldLaws.j2 kj16 a0 a1 true))))) else (some false)))))) = some r := H
              have A30 := Aside0.mk A300
              clear A300
              replace H := Option.bind_eq_some_iff.mp H
              obtain ⟨t156, A310, H⟩ := H
              replace H : ((field_Mul.f kj16 a0 a1).bind fun t157 => ((field_Mul.f kj16 a0 a2).bind fun t158 => ((field_Add.f t157 t158).bind fun t159 => (if t156 = t159 then (if a0 = 0 then ((field_Inv.f a0).bind fun t160 => ((field_Inv.f t160).bind fun t161 => (ciboriumlaw03_FieldLaws.j2 kj16 a0 a1 (t161 != a0)))) else ((field_Inv.f a0).bind fun t162 => ((field_Mul.f kj16 a0 t162).bind fun t163 => (if t163 = 1 then ((field_Inv.f a0).bind fun t164 => ((field_Inv.f t164).bind fun t165 => (ciboriumlaw03_FieldLaws.j2 kj16 a0 a1 (t165 != a0)))) else (ciboriumlaw03_FieldLaws.j2 kj16 a0 a1 true))))) else (some false))))) = some r := H
              have A31 := Aside0.mk A310
              clear A310
              replace H := Option.bind_eq_some_iff.mp H
              obtain ⟨t157, A320, H⟩ := H
              replace H : ((field_Mul.f kj16 a0 a2).bind fun t158 => ((field_Add.f t157 t158).bind fun t159 => (if t156 = t159 then (if a0 = 0 then ((field_Inv.f a0).bind fun t160 => ((field_Inv.f t160).bind fun t161 => (ciboriumlaw03_FieldLaws.j2 kj16 a0 a1 (t161 != a0)))) else ((field_Inv.f a0).bind fun t162 => ((field_Mul.f kj16 a0 t162).bind fun t163 => (if t163 = 1 then ((field_Inv.f a0).bind fun t164 => ((field_Inv.f t164).bind fun t165 => (ciboriumlaw03_FieldLaws.j2 kj16 a0 a1 (t165 != a0)))) else (ciboriumlaw03_FieldLaws.j2 kj16 a0 a1 true))))) else (some false)))) = some r := H
              have A32 := Aside0.mk A320
              clear A320
              replace H := Option.bind_eq_some_iff.mp H
              obtain ⟨t158, A330, H⟩ := H
              replace H : ((field_Add.f t157 t158).bind fun t159 => (if t156 = t159 then (if a0 = 0 then ((field_Inv.f a0).bind fun t160 => ((field_Inv.f t160).bind fun t161 => (ciboriumlaw03_FieldLaws.j2 kj16 a0 a1 (t161 != a0)))) else ((field_Inv.f a0).bind fun t162 => ((field_Mul.f kj16 a0 t162).bind fun t163 => (if t163 = 1 then ((field_Inv.f a0).bind fun t164 => ((field_Inv.f t164).bind fun t165 => (ciboriumlaw03_FieldLaws.j2 kj16 a0 a1 (t165 != a0)))) else (ciboriumlaw03_FieldLaws.j2 kj16 a0 a1 true))))) else (some false))) = some r := H
              have A33 := Aside0.mk A330
              clear A330
              replace H := Option.bind_eq_some_iff.mp H
              obtain ⟨t159, A340, H⟩ := H
              replace H : (if t156 = t159 then (if a0 = 0 then ((field_Inv.f a0).bind fun t160 => ((field_Inv.f t160).bind fun t161 => (ciboriumlaw03_FieldLaws.j2 kj16 a0 a1 (t161 != a0)))) else ((field_Inv.f a0).bind fun t162 => ((field_Mul.f kj16 a0 t162).bind fun t163 => (if t163 = 1 then ((field_Inv.f a0).bind fun t164 => ((field_Inv.f t164).bind fun t165 => (ciboriumlaw03_FieldLaws.j2 kj16 a0 a1 (t165 != a0)))) else (ciboriumlaw03_FieldLaws.j2 kj16 a0 a1 true))))) else (some false)) = some r := H
              have A34 := Aside0.mk A340
              clear A340
              by_cases c35 : t156 = t159
              · rw [if_pos c35] at H
                have c35b0 : (t156 == t159) = true := beq_iff_eq.mpr c35
                have c35b1 : (t156 != t159) = false := bne_eq_false_iff_eq.mpr c35
                clear c35
                have HC36 := Aside0.mk H
                clear H
                go_upto_region 7 with (first | ((with_reducible refine gate_callee (f := 15) rfl ?_); refine goesL_ (some 77) rfl rfl Try.func15 (by kernel_rfl) rfl #[.int .u8 a1, .int .u8 a2] rfl (by (try simp only [List.map_toArray, List.map_cons, List.map_nil]); first | done | rfl | (simp only [List.length_drop, List.length_take]; rfl)) ?_; (with_reducible refine (field_Add.calls a1 a2 t155 _ A30.out).mono ?_); rintro e w' ⟨rfl, ⟨nd, rfl⟩⟩; refine ⟨_, rfl, ?_⟩) | ((with_reducible refine gate_callee (f := 11) rfl ?_); refine goesL_ (some 78) rfl rfl Try.func11 (by kernel_rfl) rfl #[.int .u8 a0, .int .u8 t155] rfl (by (try simp only [List.map_toArray, List.map_cons, List.map_nil]); first | done | rfl | (simp only [List.length_drop, List.length_take]; rfl)) ?_; (with_reducible refine (field_Mul.calls kj16 a0 t155 t156 _ A31.out).mono ?_); rintro e w' ⟨rfl, ⟨nd, rfl⟩⟩; refine ⟨_, rfl, ?_⟩) | ((with_reducible refine gate_callee (f := 11) rfl ?_); refine goesL_ (some 81) rfl rfl Try.func11 (by kernel_rfl) rfl #[.int .u8 a0, .int .u8 a1] rfl (by (try simp only [List.map_toArray, List.map_cons, List.map_nil]); first | done | rfl | (simp only [List.length_drop, List.length_take]; rfl)) ?_; (with_reducible refine (field_Mul.calls kj16 a0 a1 t157 _ A32.out).mono ?_); rintro e w' ⟨rfl, ⟨nd, rfl⟩⟩; refine ⟨_, rfl, ?_⟩) | ((with_reducible refine gate_callee (f := 11) rfl ?_); refine goesL_ (some 84) rfl rfl Try.func11 (by kernel_rfl) rfl #[.int .u8 a0, .int .u8 a2] rfl (by (try simp only [List.map_toArray, List.map_cons, List.map_nil]); first | done | rfl | (simp only [List.length_drop, List.length_take]; rfl)) ?_; (with_reducible refine (field_Mul.calls kj16 a0 a2 t158 _ A33.out).mono ?_); rintro e w' ⟨rfl, ⟨nd, rfl⟩⟩; refine ⟨_, rfl, ?_⟩) | ((with_reducible refine gate_callee (f := 15) rfl ?_); refine goesL_ (some 85) rfl rfl Try.func15 (by kernel_rfl) rfl #[.int .u8 t157, .int .u8 t158] rfl (by (try simp only [List.map_toArray, List.map_cons, List.map_nil]); first | done | rfl | (simp only [List.length_drop, List.length_take]; rfl)) ?_; (with_reducible refine (field_Add.calls t157 t158 t159 _ A34.out).mono ?_); rintro e w' ⟨rfl, ⟨nd, rfl⟩⟩; refine ⟨_, rfl, ?_⟩))
                (try simp only [Act.put, List.setIfInBounds_toArray, List.set_cons_zero, List.set_cons_succ])
                go_cut [102] (fun v102 wc => ∃ (kq : Nat) (x102_35 : Bool), v102 = .bool x102_35 ∧ Aside0 (ciboriumlaw03_FieldLaws.j2 kq a0 a1 x102_35 = some r) ∧ Aside0 (kq ≤ kj16) ∧ Aside0 (Below w.heap.size w wc))
                case first =>
                  have H := HC36.out
                  clear HC36
                  by_cases c37 : a0 = 0
                  · rw [if_pos c37] at H
                    have c37b0 : (a0 == 0) = true := beq_iff_eq.mpr c37
                    have c37b1 : (a0 != 0) = false := bne_eq_false_iff_eq.mpr c37
                    clear c37
                    (first | rw [c37b0] | (simp only [i64_w, i32_w]; rw [c37b0]) | skip)
                    replace H := Option.bind_eq_some_iff.mp H
                    obtain ⟨t160, A380, H⟩ := H
                    replace H : ((field_Inv.f t160).bind fun t161 => (ciboriumlaw03_FieldLaws.j2 kj16 a0 a1 (t161 != a0))) = some r := H
                    have A38 := Aside0.mk A380
                    clear A380
                    replace H := Option.bind_eq_some_iff.mp H
                    obtain ⟨t161, A390, H⟩ := H
                    replace H : (ciboriumlaw03_FieldLaws.j2 kj16 a0 a1 (t161 != a0)) = some r := H
                    have A39 := Aside0.mk A390
                    clear A390
                    have H' := Aside0.mk H
                    clear H
                    go_wp2_with (first | (go_at_call 12; (with_reducible refine (field_Inv.calls a0 t160 _ A38.out).mono ?_); rintro e w40 ⟨rfl, hb⟩; have n0_ := Aside0.mk (below_step (by repeat (first | (with_reducible first | exact HB.out | apply below_alloc | apply pw_below_drewN | apply below_drew1) | exact HB.out)) hb); clear HB; have HB := n0_; clear n0_; (try clear hb); (try clear hb2); (try clear hk); (try clear hi)) | (go_at_call 12; (with_reducible refine (field_Inv.calls t160 t161 _ A39.out).mono ?_); rintro e w41 ⟨rfl, hb⟩; have n0_ := Aside0.mk (below_step (by repeat (first | (with_reducible first | exact HB.out | apply below_alloc | apply pw_below_drewN | apply below_drew1) | exact HB.out)) hb); clear HB; have HB := n0_; clear n0_; (try clear hb); (try clear hb2); (try clear hk); (try clear hi)))
                    go_meet
                    case rel => exact ⟨_, ((t161 != a0)), (by first | rfl | (simp; done) | (simp [*]; done)), H', ⟨by have := HJ3.out; have := HJ16.out; first | omega | exact Nat.le_refl _⟩, ⟨by repeat (first | (with_reducible first | exact HB.out | apply below_alloc | apply pw_below_drewN | apply below_drew1) | exact HB.out)⟩⟩
                  · rw [if_neg c37] at H
                    have c37b0 : (a0 == 0) = false := beq_eq_false_iff_ne.mpr c37
                    have c37b1 : (a0 != 0) = true := bne_iff_ne.mpr c37
                    (first | rw [c37b0] | (simp only [i64_w, i32_w]; rw [c37b0]) | skip)
                    replace H := Option.bind_eq_some_iff.mp H
                    obtain ⟨t162, A420, H⟩ := H
                    replace H : ((field_Mul.f kj16 a0 t162).bind fun t163 => (if t163 = 1 then ((field_Inv.f a0).bind fun t164 => ((field_Inv.f t164).bind fun t165 => (ciboriumlaw03_FieldLaws.j2 kj16 a0 a1 (t165 != a0)))) else (ciboriumlaw03_FieldLaws.j2 kj16 a0 a1 true))) = some r := H
                    have A42 := Aside0.mk A420
                    clear A420
                    replace H := Option.bind_eq_some_iff.mp H
                    obtain ⟨t163, A430, H⟩ := H
                    replace H : (if t163 = 1 then ((field_Inv.f a0).bind fun t164 => ((field_Inv.f t164).bind fun t165 => (ciboriumlaw03_FieldLaws.j2 kj16 a0 a1 (t165 != a0)))) else (ciboriumlaw03_FieldLaws.j2 kj16 a0 a1 true)) = some r := H
                    have A43 := Aside0.mk A430
                    clear A430
                    by_cases c44 : t163 = 1
                    · rw [if_pos c44] at H
                      have c44b0 : (t163 == 1) = true := beq_iff_eq.mpr c44
                      have c44b1 : (t163 != 1) = false := bne_eq_false_iff_eq.mpr c44
                      clear c44
                      replace H := Option.bind_eq_some_iff.mp H
                      obtain ⟨t164, A450, H⟩ := H
                      replace H : ((field_Inv.f t164).bind fun t165 => (ciboriumlaw03_FieldLaws.j2 kj16 a0 a1 (t165 != a0))) = some r := H
                      have A45 := Aside0.mk A450
                      obtain rfl : t162 = t164 := Option.some.inj (A42.out.symm.trans A45.out)
                      clear A450
                      replace H := Option.bind_eq_some_iff.mp H
                      obtain ⟨t165, A460, H⟩ := H
                      replace H : (ciboriumlaw03_FieldLaws.j2 kj16 a0 a1 (t165 != a0)) = some r := H
                      have A46 := Aside0.mk A460
                      clear A460
                      have H' := Aside0.mk H
                      clear H
                      go_wp2_with (first | (go_at_call 12; (with_reducible refine (field_Inv.calls a0 t162 _ A42.out).mono ?_); rintro e w47 ⟨rfl, hb⟩; have n0_ := Aside0.mk (below_step (by repeat (first | (with_reducible first | exact HB.out | apply below_alloc | apply pw_below_drewN | apply below_drew1) | exact HB.out)) hb); clear HB; have HB := n0_; clear n0_; (try clear hb); (try clear hb2); (try clear hk); (try clear hi)) | (go_at_call 11; (with_reducible refine (field_Mul.calls kj16 a0 t162 t163 _ A43.out).mono ?_); rintro e w' ⟨rfl, ⟨nd, rfl⟩⟩) | (go_at_call 12; (with_reducible refine (field_Inv.calls a0 t162 _ A45.out).mono ?_); rintro e w48 ⟨rfl, hb⟩; have n0_ := Aside0.mk (below_step (by repeat (first | (with_reducible first | exact HB.out | apply below_alloc | apply pw_below_drewN | apply below_drew1) | exact HB.out)) hb); clear HB; have HB := n0_; clear n0_; (try clear hb); (try clear hb2); (try clear hk); (try clear hi)) | (go_at_call 12; (with_reducible refine (field_Inv.calls t162 t165 _ A46.out).mono ?_); rintro e w49 ⟨rfl, hb⟩; have n0_ := Aside0.mk (below_step (by repeat (first | (with_reducible first | exact HB.out | apply below_alloc | apply pw_below_drewN | apply below_drew1) | exact HB.out)) hb); clear HB; have HB := n0_; clear n0_; (try clear hb); (try clear hb2); (try clear hk); (try clear hi)))
                      go_meet
                      case rel => exact ⟨_, ((t165 != a0)), (by first | rfl | (simp; done) | (simp [*]; done)), H', ⟨by have := HJ3.out; have := HJ16.out; first | omega | exact Nat.le_refl _⟩, ⟨by repeat (first | (with_reducible first | exact HB.out | apply below_alloc | apply pw_below_drewN | apply below_drew1) | exact HB.out)⟩⟩
                    · rw [if_neg c44] at H
                      have c44b0 : (t163 == 1) = false := beq_eq_false_iff_ne.mpr c44
                      have c44b1 : (t163 != 1) = true := bne_iff_ne.mpr c44
                      have H' := Aside0.mk H
                      clear H
                      go_wp2_with (first | (go_at_call 12; (with_reducible refine (field_Inv.calls a0 t162 _ A42.out).mono ?_); rintro e w50 ⟨rfl, hb⟩; have n0_ := Aside0.mk (below_step (by repeat (first | (with_reducible first | exact HB.out | apply below_alloc | apply pw_below_drewN | apply below_drew1) | exact HB.out)) hb); clear HB; have HB := n0_; clear n0_; (try clear hb); (try clear hb2); (try clear hk); (try clear hi)) | (go_at_call 11; (with_reducible refine (field_Mul.calls kj16 a0 t162 t163 _ A43.out).mono ?_); rintro e w' ⟨rfl, ⟨nd, rfl⟩⟩))
                      go_meet
                      case rel => exact ⟨_, (true), (by first | rfl | (simp; done) | (simp [*]; done)), H', ⟨by have := HJ3.out; have := HJ16.out; first | omega | exact Nat.le_refl _⟩, ⟨by repeat (first | (with_reducible first | exact HB.out | apply below_alloc | apply pw_below_drewN | apply below_drew1) | exact HB.out)⟩⟩
                case rest =>
                  clear HC36
                  try clear c1
                  try clear c2
                  try clear p2
                  try clear c3
                  try clear c4
                  try clear c5
                  try clear c7
                  try clear c7b0
                  try clear c7b1
                  try clear c11
                  try clear c12
                  try clear c12b0
                  try clear c12b1
                  try clear c14
                  try clear c14b0
                  try clear c14b1
                  try clear c15
                  try clear c16
                  try clear c20
                  try clear c20b0
                  try clear c20b1
                  try clear c25
                  try clear c25b0
                  try clear c25b1
                  try clear c27
                  try clear c27b0
                  try clear c27b1
                  try clear c29
                  try clear c35
                  try clear c35b0
                  try clear c35b1
                  try clear c37
                  try clear c37b0
                  try clear c37b1
                  try clear c44
                  try clear c44b0
                  try clear c44b1
                  try clear p2
                  obtain ⟨kq, x102_35, rfl, HA, HJ35, HB⟩ := hcut
                  cases kq with
                  | zero => exact absurd HA.out (by simp [ciboriumlaw03_FieldLaws.j2])
                  | succ kj35 =>
                    have H := HA.out
                    clear HA
                    simp only [ciboriumlaw03_FieldLaws.j2] at H
                    by_cases c51 : x102_35 = true
                    · subst c51
                      have H1 : (some false) = some r := by rw [if_pos rfl] at H; exact H
                      clear H
                      have H := H1
                      clear H1
                      obtain rfl := Option.some.inj H
                      go_wp2
                      go_ret
                      exact ⟨by first | rfl | (simp [errW_none, errW_some] <;> rfl) | (simp [*, errW_none, errW_some] <;> rfl), by repeat (first | (with_reducible first | exact HB.out | apply below_alloc | apply pw_below_drewN | apply below_drew1) | exact HB.out)⟩
                    · replace c51 := Bool.eq_false_iff.mpr c51
                      subst c51
                      have H1 : ((field_Div.f kj35 a0 a1).bind fun bt166 => (if a1 = 0 then (if bt166.2 = 30 then (if bt166.1 = 0 then ((ciboriumlaw03_works.f kj35).bind fun t168 => (some t168)) else (some false)) else (some false)) else ((field_Mul.f kj35 a0 a1).bind fun t169 => ((field_Div.f kj35 t169 a1).bind fun bt170 => (if bt166.2 = 0 then (if bt170.2 = 0 then ((field_Mul.f kj35 bt166.1 a1).bind fun t172 => (if t172 = a0 then (if bt170.1 = a0 then ((ciboriumlaw03_works.f kj35).bind fun t173 => (some t173)) else (some false)) else (some false))) else (some false)) else (some false)))))) = some r := by rw [if_neg (show ¬ (false = true) by decide)] at H; exact H
                      clear H
                      have H := H1
                      clear H1
                      replace H := Option.bind_eq_some_iff.mp H
                      obtain ⟨⟨t166, t167⟩, A520, H⟩ := H
                      replace H : (if a1 = 0 then (if t167 = 30 then (if t166 = 0 then ((ciboriumlaw03_works.f kj35).bind fun t168 => (some t168)) else (some false)) else (some false)) else ((field_Mul.f kj35 a0 a1).bind fun t169 => ((field_Div.f kj35 t169 a1).bind fun bt170 => (if t167 = 0 then (if bt170.2 = 0 then ((field_Mul.f kj35 t166 a1).bind fun t172 => (if t172 = a0 then (if bt170.1 = a0 then ((ciboriumlaw03_works.f kj35).bind fun t173 => (some t173)) else (some false)) else (some false))) else (some false)) else (some false))))) = some r := H
                      have A52 := Aside0.mk A520
                      clear A520
                      by_cases c53 : a1 = 0
                      · rw [if_pos c53] at H
                        have c53b0 : (a1 == 0) = true := beq_iff_eq.mpr c53
                        have c53b1 : (a1 != 0) = false := bne_eq_false_iff_eq.mpr c53
                        clear c53
                        by_cases c54 : t167 = 30
                        · rw [if_pos c54] at H
                          have c54b0 : (t167 == 30) = true := beq_iff_eq.mpr c54
                          have c54b1 : (t167 != 30) = false := bne_eq_false_iff_eq.mpr c54
                          clear c54
                          by_cases c55 : t166 = 0
                          · rw [if_pos c55] at H
                            have c55b0 : (t166 == 0) = true := beq_iff_eq.mpr c55
                            have c55b1 : (t166 != 0) = false := bne_eq_false_iff_eq.mpr c55
                            clear c55
                            replace H := Option.bind_eq_some_iff.mp H
                            obtain ⟨t168, A560, H⟩ := H
                            replace H : (some t168) = some r := H
                            have A56 := Aside0.mk A560
                            clear A560
                            obtain rfl := Option.some.inj H
                            go_wp2_with (first | ((with_reducible refine gate_callee (f := 13) rfl ?_); refine goesL_ (some 106) rfl rfl Try.func13 (by kernel_rfl) rfl #[.int .u8 a0, .int .u8 a1] rfl (by (try simp only [List.map_toArray, List.map_cons, List.map_nil]); first | done | rfl | (simp only [List.length_drop, List.length_take]; rfl)) ?_; (with_reducible refine (field_Div.calls kj35 a0 a1 t166 t167 _ A52.out).mono ?_); rintro e w57 ⟨rfl, hb⟩; refine ⟨_, rfl, ?_⟩; have n0_ := Aside0.mk (below_step (by repeat (first | (with_reducible first | exact HB.out | apply below_alloc | apply pw_below_drewN | apply below_drew1) | exact HB.out)) hb); clear HB; have HB := n0_; clear n0_; (try clear hb); (try clear hb2); (try clear hk); (try clear hi)) | (go_at_call 10; (with_reducible refine (ciboriumlaw03_works.calls kj35  t168 _ A56.out).mono ?_); rintro e w58 ⟨rfl, hb⟩; have n0_ := Aside0.mk (below_step (by repeat (first | (with_reducible first | exact HB.out | apply below_alloc | apply pw_below_drewN | apply below_drew1) | exact HB.out)) hb); clear HB; have HB := n0_; clear n0_; (try clear hb); (try clear hb2); (try clear hk); (try clear hi)))
                            go_ret
                            exact ⟨by first | rfl | (simp [errW_none, errW_some] <;> rfl) | (simp [*, errW_none, errW_some] <;> rfl), by repeat (first | (with_reducible first | exact HB.out | apply below_alloc | apply pw_below_drewN | apply below_drew1) | exact HB.out)⟩
                          · rw [if_neg c55] at H
                            have c55b0 : (t166 == 0) = false := beq_eq_false_iff_ne.mpr c55
                            have c55b1 : (t166 != 0) = true := bne_iff_ne.mpr c55
                            obtain rfl := Option.some.inj H
                            go_wp2_with (first | ((with_reducible refine gate_callee (f := 13) rfl ?_); refine goesL_ (some 106) rfl rfl Try.func13 (by kernel_rfl) rfl #[.int .u8 a0, .int .u8 a1] rfl (by (try simp only [List.map_toArray, List.map_cons, List.map_nil]); first | done | rfl | (simp only [List.length_drop, List.length_take]; rfl)) ?_; (with_reducible refine (field_Div.calls kj35 a0 a1 t166 t167 _ A52.out).mono ?_); rintro e w59 ⟨rfl, hb⟩; refine ⟨_, rfl, ?_⟩; have n0_ := Aside0.mk (below_step (by repeat (first | (with_reducible first | exact HB.out | apply below_alloc | apply pw_below_drewN | apply below_drew1) | exact HB.out)) hb); clear HB; have HB := n0_; clear n0_; (try clear hb); (try clear hb2); (try clear hk); (try clear hi)))
                            go_ret
                            exact ⟨by first | rfl | (simp [errW_none, errW_some] <;> rfl) | (simp [*, errW_none, errW_some] <;> rfl), by repeat (first | (with_reducible first | exact HB.out | apply below_alloc | apply pw_below_drewN | apply below_drew1) | exact HB.out)⟩
                        · rw [if_neg c54] at H
                          have c54b0 : (t167 == 30) = false := beq_eq_false_iff_ne.mpr c54
                          have c54b1 : (t167 != 30) = true := bne_iff_ne.mpr c54
                          obtain rfl := Option.some.inj H
                          go_wp2_with (first | ((with_reducible refine gate_callee (f := 13) rfl ?_); refine goesL_ (some 106) rfl rfl Try.func13 (by kernel_rfl) rfl #[.int .u8 a0, .int .u8 a1] rfl (by (try simp only [List.map_toArray, List.map_cons, List.map_nil]); first | done | rfl | (simp only [List.length_drop, List.length_take]; rfl)) ?_; (with_reducible refine (field_Div.calls kj35 a0 a1 t166 t167 _ A52.out).mono ?_); rintro e w60 ⟨rfl, hb⟩; refine ⟨_, rfl, ?_⟩; have n0_ := Aside0.mk (below_step (by repeat (first | (with_reducible first | exact HB.out | apply below_alloc | apply pw_below_drewN | apply below_drew1) | exact HB.out)) hb); clear HB; have HB := n0_; clear n0_; (try clear hb); (try clear hb2); (try clear hk); (try clear hi)))
                          go_ret
                          exact ⟨by first | rfl | (simp [errW_none, errW_some] <;> rfl) | (simp [*, errW_none, errW_some] <;> rfl), by repeat (first | (with_reducible first | exact HB.out | apply below_alloc | apply pw_below_drewN | apply below_drew1) | exact HB.out)⟩
                      · rw [if_neg c53] at H
                        have c53b0 : (a1 == 0) = false := beq_eq_false_iff_ne.mpr c53
                        have c53b1 : (a1 != 0) = true := bne_iff_ne.mpr c53
                        replace H := Option.bind_eq_some_iff.mp H
                        obtain ⟨t169, A610, H⟩ := H
                        replace H : ((field_Div.f kj35 t169 a1).bind fun bt170 => (if t167 = 0 then (if bt170.2 = 0 then ((field_Mul.f kj35 t166 a1).bind fun t172 => (if t172 = a0 then (if bt170.1 = a0 then ((ciboriumlaw03_works.f kj35).bind fun t173 => (some t173)) else (some false)) else (some false))) else (some false)) else (some false))) = some r := H
                        have A61 := Aside0.mk A610
                        clear A610
                        replace H := Option.bind_eq_some_iff.mp H
                        obtain ⟨⟨t170, t171⟩, A620, H⟩ := H
                        replace H : (if t167 = 0 then (if t171 = 0 then ((field_Mul.f kj35 t166 a1).bind fun t172 => (if t172 = a0 then (if t170 = a0 then ((ciboriumlaw03_works.f kj35).bind fun t173 => (some t173)) else (some false)) else (some false))) else (some false)) else (some false)) = some r := H
                        have A62 := Aside0.mk A620
                        clear A620
                        by_cases c63 : t167 = 0
                        · rw [if_pos c63] at H
                          have c63b0 : (t167 == 0) = true := beq_iff_eq.mpr c63
                          have c63b1 : (t167 != 0) = false := bne_eq_false_iff_eq.mpr c63
                          clear c63
                          by_cases c64 : t171 = 0
                          · rw [if_pos c64] at H
                            have c64b0 : (t171 == 0) = true := beq_iff_eq.mpr c64
                            have c64b1 : (t171 != 0) = false := bne_eq_false_iff_eq.mpr c64
                            clear c64
                            replace H := Option.bind_eq_some_iff.mp H
                            obtain ⟨t172, A650, H⟩ := H
                            replace H : (if t172 = a0 then (if t170 = a0 then ((ciboriumlaw03_works.f kj35).bind fun t173 => (some t173)) else (some false)) else (some false)) = some r := H
                            have A65 := Aside0.mk A650
                            clear A650
                            by_cases c66 : t172 = a0
                            · rw [if_pos c66] at H
                              have c66b0 : (t172 == a0) = true := beq_iff_eq.mpr c66
                              have c66b1 : (t172 != a0) = false := bne_eq_false_iff_eq.mpr c66
                              clear c66
                              by_cases c67 : t170 = a0
                              · rw [if_pos c67] at H
                                have c67b0 : (t170 == a0) = true := beq_iff_eq.mpr c67
                                have c67b1 : (t170 != a0) = false := bne_eq_false_iff_eq.mpr c67
                                clear c67
                                replace H := Option.bind_eq_some_iff.mp H
                                obtain ⟨t173, A680, H⟩ := H
                                replace H : (some t173) = some r := H
                                have A68 := Aside0.mk A680
                                clear A680
                                obtain rfl := Option.some.inj H
                                go_wp2_with (first | ((with_reducible refine gate_callee (f := 13) rfl ?_); refine goesL_ (some 106) rfl rfl Try.func13 (by kernel_rfl) rfl #[.int .u8 a0, .int .u8 a1] rfl (by (try simp only [List.map_toArray, List.map_cons, List.map_nil]); first | done | rfl | (simp only [List.length_drop, List.length_take]; rfl)) ?_; (with_reducible refine (field_Div.calls kj35 a0 a1 t166 t167 _ A52.out).mono ?_); rintro e w69 ⟨rfl, hb⟩; refine ⟨_, rfl, ?_⟩; have n0_ := Aside0.mk (below_step (by repeat (first | (with_reducible first | exact HB.out | apply below_alloc | apply pw_below_drewN | apply below_drew1) | exact HB.out)) hb); clear HB; have HB := n0_; clear n0_; (try clear hb); (try clear hb2); (try clear hk); (try clear hi)) | ((with_reducible refine gate_callee (f := 11) rfl ?_); refine goesL_ (some 123) rfl rfl Try.func11 (by kernel_rfl) rfl #[.int .u8 a0, .int .u8 a1] rfl (by (try simp only [List.map_toArray, List.map_cons, List.map_nil]); first | done | rfl | (simp only [List.length_drop, List.length_take]; rfl)) ?_; (with_reducible refine (field_Mul.calls kj35 a0 a1 t169 _ A61.out).mono ?_); rintro e w' ⟨rfl, ⟨nd, rfl⟩⟩; refine ⟨_, rfl, ?_⟩) | ((with_reducible refine gate_callee (f := 13) rfl ?_); refine goesL_ (some 125) rfl rfl Try.func13 (by kernel_rfl) rfl #[.int .u8 t169, .int .u8 a1] rfl (by (try simp only [List.map_toArray, List.map_cons, List.map_nil]); first | done | rfl | (simp only [List.length_drop, List.length_take]; rfl)) ?_; (with_reducible refine (field_Div.calls kj35 t169 a1 t170 t171 _ A62.out).mono ?_); rintro e w70 ⟨rfl, hb⟩; refine ⟨_, rfl, ?_⟩; have n0_ := Aside0.mk (below_step (by repeat (first | (with_reducible first | exact HB.out | apply below_alloc | apply pw_below_drewN | apply below_drew1) | exact HB.out)) hb); clear HB; have HB := n0_; clear n0_; (try clear hb); (try clear hb2); (try clear hk); (try clear hi)) | (go_at_call 11; (with_reducible refine (field_Mul.calls kj35 t166 a1 t172 _ A65.out).mono ?_); rintro e w' ⟨rfl, ⟨nd, rfl⟩⟩) | (go_at_call 10; (with_reducible refine (ciboriumlaw03_works.calls kj35  t173 _ A68.out).mono ?_); rintro e w71 ⟨rfl, hb⟩; have n0_ := Aside0.mk (below_step (by repeat (first | (with_reducible first | exact HB.out | apply below_alloc | apply pw_below_drewN | apply below_drew1) | exact HB.out)) hb); clear HB; have HB := n0_; clear n0_; (try clear hb); (try clear hb2); (try clear hk); (try clear hi)))
                                go_ret
                                exact ⟨by first | rfl | (simp [errW_none, errW_some] <;> rfl) | (simp [*, errW_none, errW_some] <;> rfl), by repeat (first | (with_reducible first | exact HB.out | apply below_alloc | apply pw_below_drewN | apply below_drew1) | exact HB.out)⟩
                              · rw [if_neg c67] at H
                                have c67b0 : (t170 == a0) = false := beq_eq_false_iff_ne.mpr c67
                                have c67b1 : (t170 != a0) = true := bne_iff_ne.mpr c67
                                obtain rfl := Option.some.inj H
                                go_wp2_with (first | ((with_reducible refine gate_callee (f := 13) rfl ?_); refine goesL_ (some 106) rfl rfl Try.func13 (by kernel_rfl) rfl #[.int .u8 a0, .int .u8 a1] rfl (by (try simp only [List.map_toArray, List.map_cons, List.map_nil]); first | done | rfl | (simp only [List.length_drop, List.length_take]; rfl)) ?_; (with_reducible refine (field_Div.calls kj35 a0 a1 t166 t167 _ A52.out).mono ?_); rintro e w72 ⟨rfl, hb⟩; refine ⟨_, rfl, ?_⟩; have n0_ := Aside0.mk (below_step (by repeat (first | (with_reducible first | exact HB.out | apply below_alloc | apply pw_below_drewN | apply below_drew1) | exact HB.out)) hb); clear HB; have HB := n0_; clear n0_; (try clear hb); (try clear hb2); (try clear hk); (try clear hi)) | ((with_reducible refine gate_callee (f := 11) rfl ?_); refine goesL_ (some 123) rfl rfl Try.func11 (by kernel_rfl) rfl #[.int .u8 a0, .int .u8 a1] rfl (by (try simp only [List.map_toArray, List.map_cons, List.map_nil]); first | done | rfl | (simp only [List.length_drop, List.length_take]; rfl)) ?_; (with_reducible refine (field_Mul.calls kj35 a0 a1 t169 _ A61.out).mono ?_); rintro e w' ⟨rfl, ⟨nd, rfl⟩⟩; refine ⟨_, rfl, ?_⟩) | ((with_reducible refine gate_callee (f := 13) rfl ?_); refine goesL_ (some 125) rfl rfl Try.func13 (by kernel_rfl) rfl #[.int .u8 t169, .int .u8 a1] rfl (by (try simp only [List.map_toArray, List.map_cons, List.map_nil]); first | done | rfl | (simp only [List.length_drop, List.length_take]; rfl)) ?_; (with_reducible refine (field_Div.calls kj35 t169 a1 t170 t171 _ A62.out).mono ?_); rintro e w73 ⟨rfl, hb⟩; refine ⟨_, rfl, ?_⟩; have n0_ := Aside0.mk (below_step (by repeat (first | (with_reducible first | exact HB.out | apply below_alloc | apply pw_below_drewN | apply below_drew1) | exact HB.out)) hb); clear HB; have HB := n0_; clear n0_; (try clear hb); (try clear hb2); (try clear hk); (try clear hi)) | (go_at_call 11; (with_reducible refine (field_Mul.calls kj35 t166 a1 t172 _ A65.out).mono ?_); rintro e w' ⟨rfl, ⟨nd, rfl⟩⟩))
                                go_ret
                                exact ⟨by first | rfl | (simp [errW_none, errW_some] <;> rfl) | (simp [*, errW_none, errW_some] <;> rfl), by repeat (first | (with_reducible first | exact HB.out | apply below_alloc | apply pw_below_drewN | apply below_drew1) | exact HB.out)⟩
                            · rw [if_neg c66] at H
                              have c66b0 : (t172 == a0) = false := beq_eq_false_iff_ne.mpr c66
                              have c66b1 : (t172 != a0) = true := bne_iff_ne.mpr c66
                              obtain rfl := Option.some.inj H
                              go_wp2_with (first | ((with_reducible refine gate_callee (f := 13) rfl ?_); refine goesL_ (some 106) rfl rfl Try.func13 (by kernel_rfl) rfl #[.int .u8 a0, .int .u8 a1] rfl (by (try simp only [List.map_toArray, List.map_cons, List.map_nil]); first | done | rfl | (simp only [List.length_drop, List.length_take]; rfl)) ?_; (with_reducible refine (field_Div.calls kj35 a0 a1 t166 t167 _ A52.out).mono ?_); rintro e w74 ⟨rfl, hb⟩; refine ⟨_, rfl, ?_⟩; have n0_ := Aside0.mk (below_step (by repeat (first | (with_reducible first | exact HB.out | apply below_alloc | apply pw_below_drewN | apply below_drew1) | exact HB.out)) hb); clear HB; have HB := n0_; clear n0_; (try clear hb); (try clear hb2); (try clear hk); (try clear hi)) | ((with_reducible refine gate_callee (f := 11) rfl ?_); refine goesL_ (some 123) rfl rfl Try.func11 (by kernel_rfl) rfl #[.int .u8 a0, .int .u8 a1] rfl (by (try simp only [List.map_toArray, List.map_cons, List.map_nil]); first | done | rfl | (simp only [List.length_drop, List.length_take]; rfl)) ?_; (with_reducible refine (field_Mul.calls kj35 a0 a1 t169 _ A61.out).mono ?_); rintro e w' ⟨rfl, ⟨nd, rfl⟩⟩; refine ⟨_, rfl, ?_⟩) | ((with_reducible refine gate_callee (f := 13) rfl ?_); refine goesL_ (some 125) rfl rfl Try.func13 (by kernel_rfl) rfl #[.int .u8 t169, .int .u8 a1] rfl (by (try simp only [List.map_toArray, List.map_cons, List.map_nil]); first | done | rfl | (simp only [List.length_drop, List.length_take]; rfl)) ?_; (with_reducible refine (field_Div.calls kj35 t169 a1 t170 t171 _ A62.out).mono ?_); rintro e w75 ⟨rfl, hb⟩; refine ⟨_, rfl, ?_⟩; have n0_ := Aside0.mk (below_step (by repeat (first | (with_reducible first | exact HB.out | apply below_alloc | apply pw_below_drewN | apply below_drew1) | exact HB.out)) hb); clear HB; have HB := n0_; clear n0_; (try clear hb); (try clear hb2); (try clear hk); (try clear hi)) | (go_at_call 11; (with_reducible refine (field_Mul.calls kj35 t166 a1 t172 _ A65.out).mono ?_); rintro e w' ⟨rfl, ⟨nd, rfl⟩⟩))
                              go_ret
                              exact ⟨by first | rfl | (simp [errW_none, errW_some] <;> rfl) | (simp [*, errW_none, errW_some] <;> rfl), by repeat (first | (with_reducible first | exact HB.out | apply below_alloc | apply pw_below_drewN | apply below_drew1) | exact HB.out)⟩
                          · rw [if_neg c64] at H
                            have c64b0 : (t171 == 0) = false := beq_eq_false_iff_ne.mpr c64
                            have c64b1 : (t171 != 0) = true := bne_iff_ne.mpr c64
                            obtain rfl := Option.some.inj H
                            go_wp2_with (first | ((with_reducible refine gate_callee (f := 13) rfl ?_); refine goesL_ (some 106) rfl rfl Try.func13 (by kernel_rfl) rfl #[.int .u8 a0, .int .u8 a1] rfl (by (try simp only [List.map_toArray, List.map_cons, List.map_nil]); first | done | rfl | (simp only [List.length_drop, List.length_take]; rfl)) ?_; (with_reducible refine (field_Div.calls kj35 a0 a1 t166 t167 _ A52.out).mono ?_); rintro e w76 ⟨rfl, hb⟩; refine ⟨_, rfl, ?_⟩; have n0_ := Aside0.mk (below_step (by repeat (first | (with_reducible first | exact HB.out | apply below_alloc | apply pw_below_drewN | apply below_drew1) | exact HB.out)) hb); clear HB; have HB := n0_; clear n0_; (try clear hb); (try clear hb2); (try clear hk); (try clear hi)) | ((with_reducible refine gate_callee (f := 11) rfl ?_); refine goesL_ (some 123) rfl rfl Try.func11 (by kernel_rfl) rfl #[.int .u8 a0, .int .u8 a1] rfl (by (try simp only [List.map_toArray, List.map_cons, List.map_nil]); first | done | rfl | (simp only [List.length_drop, List.length_take]; rfl)) ?_; (with_reducible refine (field_Mul.calls kj35 a0 a1 t169 _ A61.out).mono ?_); rintro e w' ⟨rfl, ⟨nd, rfl⟩⟩; refine ⟨_, rfl, ?_⟩) | ((with_reducible refine gate_callee (f := 13) rfl ?_); refine goesL_ (some 125) rfl rfl Try.func13 (by kernel_rfl) rfl #[.int .u8 t169, .int .u8 a1] rfl (by (try simp only [List.map_toArray, List.map_cons, List.map_nil]); first | done | rfl | (simp only [List.length_drop, List.length_take]; rfl)) ?_; (with_reducible refine (field_Div.calls kj35 t169 a1 t170 t171 _ A62.out).mono ?_); rintro e w77 ⟨rfl, hb⟩; refine ⟨_, rfl, ?_⟩; have n0_ := Aside0.mk (below_step (by repeat (first | (with_reducible first | exact HB.out | apply below_alloc | apply pw_below_drewN | apply below_drew1) | exact HB.out)) hb); clear HB; have HB := n0_; clear n0_; (try clear hb); (try clear hb2); (try clear hk); (try clear hi)))
                            go_ret
                            exact ⟨by first | rfl | (simp [errW_none, errW_some] <;> rfl) | (simp [*, errW_none, errW_some] <;> rfl), by repeat (first | (with_reducible first | exact HB.out | apply below_alloc | apply pw_below_drewN | apply below_drew1) | exact HB.out)⟩
                        · rw [if_neg c63] at H
                          have c63b0 : (t167 == 0) = false := beq_eq_false_iff_ne.mpr c63
                          have c63b1 : (t167 != 0) = true := bne_iff_ne.mpr c63
                          obtain rfl := Option.some.inj H
                          go_wp2_with (first | ((with_reducible refine gate_callee (f := 13) rfl ?_); refine goesL_ (some 106) rfl rfl Try.func13 (by kernel_rfl) rfl #[.int .u8 a0, .int .u8 a1] rfl (by (try simp only [List.map_toArray, List.map_cons, List.map_nil]); first | done | rfl | (simp only [List.length_drop, List.length_take]; rfl)) ?_; (with_reducible refine (field_Div.calls kj35 a0 a1 t166 t167 _ A52.out).mono ?_); rintro e w78 ⟨rfl, hb⟩; refine ⟨_, rfl, ?_⟩; have n0_ := Aside0.mk (below_step (by repeat (first | (with_reducible first | exact HB.out | apply below_alloc | apply pw_below_drewN | apply below_drew1) | exact HB.out)) hb); clear HB; have HB := n0_; clear n0_; (try clear hb); (try clear hb2); (try clear hk); (try clear hi)) | ((with_reducible refine gate_callee (f := 11) rfl ?_); refine goesL_ (some 123) rfl rfl Try.func11 (by kernel_rfl) rfl #[.int .u8 a0, .int .u8 a1] rfl (by (try simp only [List.map_toArray, List.map_cons, List.map_nil]); first | done | rfl | (simp only [List.length_drop, List.length_take]; rfl)) ?_; (with_reducible refine (field_Mul.calls kj35 a0 a1 t169 _ A61.out).mono ?_); rintro e w' ⟨rfl, ⟨nd, rfl⟩⟩; refine ⟨_, rfl, ?_⟩) | ((with_reducible refine gate_callee (f := 13) rfl ?_); refine goesL_ (some 125) rfl rfl Try.func13 (by kernel_rfl) rfl #[.int .u8 t169, .int .u8 a1] rfl (by (try simp only [List.map_toArray, List.map_cons, List.map_nil]); first | done | rfl | (simp only [List.length_drop, List.length_take]; rfl)) ?_; (with_reducible refine (field_Div.calls kj35 t169 a1 t170 t171 _ A62.out).mono ?_); rintro e w79 ⟨rfl, hb⟩; refine ⟨_, rfl, ?_⟩; have n0_ := Aside0.mk (below_step (by repeat (first | (with_reducible first | exact HB.out | apply below_alloc | apply pw_below_drewN | apply below_drew1) | exact HB.out)) hb); clear HB; have HB := n0_; clear n0_; (try clear hb); (try clear hb2); (try clear hk); (try clear hi)))
                          go_ret
                          exact ⟨by first | rfl | (simp [errW_none, errW_some] <;> rfl) | (simp [*, errW_none, errW_some] <;> rfl), by repeat (first | (with_reducible first | exact HB.out | apply below_alloc | apply pw_below_drewN | apply below_drew1) | exact HB.out)⟩
              · rw [if_neg c35] at H
                have c35b0 : (t156 == t159) = false := beq_eq_false_iff_ne.mpr c35
                have c35b1 : (t156 != t159) = true := bne_iff_ne.mpr c35
                obtain rfl := Option.some.inj H
                go_wp2_with (first | ((with_reducible refine gate_callee (f := 15) rfl ?_); refine goesL_ (some 77) rfl rfl Try.func15 (by kernel_rfl) rfl #[.int .u8 a1, .int .u8 a2] rfl (by (try simp only [List.map_toArray, List.map_cons, List.map_nil]); first | done | rfl | (simp only [List.length_drop, List.length_take]; rfl)) ?_; (with_reducible refine (field_Add.calls a1 a2 t155 _ A30.out).mono ?_); rintro e w' ⟨rfl, ⟨nd, rfl⟩⟩; refine ⟨_, rfl, ?_⟩) | ((with_reducible refine gate_callee (f := 11) rfl ?_); refine goesL_ (some 78) rfl rfl Try.func11 (by kernel_rfl) rfl #[.int .u8 a0, .int .u8 t155] rfl (by (try simp only [List.map_toArray, List.map_cons, List.map_nil]); first | done | rfl | (simp only [List.length_drop, List.length_take]; rfl)) ?_; (with_reducible refine (field_Mul.calls kj16 a0 t155 t156 _ A31.out).mono ?_); rintro e w' ⟨rfl, ⟨nd, rfl⟩⟩; refine ⟨_, rfl, ?_⟩) | ((with_reducible refine gate_callee (f := 11) rfl ?_); refine goesL_ (some 81) rfl rfl Try.func11 (by kernel_rfl) rfl #[.int .u8 a0, .int .u8 a1] rfl (by (try simp only [List.map_toArray, List.map_cons, List.map_nil]); first | done | rfl | (simp only [List.length_drop, List.length_take]; rfl)) ?_; (with_reducible refine (field_Mul.calls kj16 a0 a1 t157 _ A32.out).mono ?_); rintro e w' ⟨rfl, ⟨nd, rfl⟩⟩; refine ⟨_, rfl, ?_⟩) | ((with_reducible refine gate_callee (f := 11) rfl ?_); refine goesL_ (some 84) rfl rfl Try.func11 (by kernel_rfl) rfl #[.int .u8 a0, .int .u8 a2] rfl (by (try simp only [List.map_toArray, List.map_cons, List.map_nil]); first | done | rfl | (simp only [List.length_drop, List.length_take]; rfl)) ?_; (with_reducible refine (field_Mul.calls kj16 a0 a2 t158 _ A33.out).mono ?_); rintro e w' ⟨rfl, ⟨nd, rfl⟩⟩; refine ⟨_, rfl, ?_⟩) | ((with_reducible refine gate_callee (f := 15) rfl ?_); refine goesL_ (some 85) rfl rfl Try.func15 (by kernel_rfl) rfl #[.int .u8 t157, .int .u8 t158] rfl (by (try simp only [List.map_toArray, List.map_cons, List.map_nil]); first | done | rfl | (simp only [List.length_drop, List.length_take]; rfl)) ?_; (with_reducible refine (field_Add.calls t157 t158 t159 _ A34.out).mono ?_); rintro e w' ⟨rfl, ⟨nd, rfl⟩⟩; refine ⟨_, rfl, ?_⟩))
                go_ret
                exact ⟨by first | rfl | (simp [errW_none, errW_some] <;> rfl) | (simp [*, errW_none, errW_some] <;> rfl), by repeat (first | (with_reducible first | exact HB.out | apply below_alloc | apply pw_below_drewN | apply below_drew1) | exact HB.out)⟩

/-- THE ONE PURE STATEMENT of ciboriumlaw03_FieldLaws: yours. -/
def ciboriumlaw03_FieldLaws.Pure : Prop := ∀ (a0 : Int) (a1 : Int) (a2 : Int), (Lit.int .u8 a0).wf = true → (Lit.int .u8 a1).wf = true → (Lit.int .u8 a2).wf = true → ∃ k, ciboriumlaw03_FieldLaws.f k a0 a1 a2 = some true
theorem ciboriumlaw03_FieldLaws.walk (P : ciboriumlaw03_FieldLaws.Pure) (a0 : Int) (a1 : Int) (a2 : Int) (w : World) (w0 : (Lit.int .u8 a0).wf = true) (w1 : (Lit.int .u8 a1).wf = true) (w2 : (Lit.int .u8 a2).wf = true) :
    Calls Try.prog 5 #[.int .u8 a0, .int .u8 a1, .int .u8 a2] w fun e w' => e = .returned (.bool true) ∧ Below w.heap.size w w' := by
  obtain ⟨k, h⟩ := P a0 a1 a2 w0 w1 w2
  refine (ciboriumlaw03_FieldLaws.calls k a0 a1 a2 true w h).mono ?_
  rintro e w' ⟨rfl, hd⟩
  exact ⟨rfl, hd⟩

end Go.Proofs.Ytaadeokgcacibaa.PF3
