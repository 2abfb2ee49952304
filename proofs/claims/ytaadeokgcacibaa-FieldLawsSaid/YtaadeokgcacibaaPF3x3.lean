/- What is said here: what the Go functions named below answer, each as a plain function with the proof that its call comes to that answer; written by a program out of the translation. No condition. -/
import Derived.Test.YtaadeokgcacibaaPF3x0
import Derived.Test.YtaadeokgcacibaaPF3x1
import Derived.Test.YtaadeokgcacibaaPF3x2
namespace Go.Proofs.Ytaadeokgcacibaa.PF3
open Go.RowKit Go.Proofs.YtaadeokgcacibaaW.PrintWords Go.Proofs.YtaadeokgcacibaaW.PrintLast Go.Proofs.YtaadeokgcacibaaW.PrintMore
attribute [local go_sem] max2_int min2_int max_two min_two max_three min_three max_four min_four   -- for this text's walks alone
set_option linter.unusedVariables false
set_option linter.unusedSimpArgs false

/-! ### ciboriumlaw03_FieldReckons: function 4 -/
def ciboriumlaw03_FieldReckons.j0 : Nat → Int → Int → Int → Int → Int → Int → Bool → Option (Bool)
  | 0, _, _, _, _, _, _, _ => none
  | k + 1, x0, x2, x7, x8, x9, x10, x45 => if x45 = true then (some false) else (if x7 = x9 then (if x8 = x10 then ((field_Pow.f x0 x2).bind fun t136 => ((ciboriumref03_Pow.f k x0 x2).bind fun t137 => (if t136 = t137 then ((ciboriumlaw03_works.f k).bind fun t138 => (some t138)) else (some false)))) else (some false)) else (some false))
def ciboriumlaw03_FieldReckons.f (k : Nat) (a0 : Int) (a1 : Int) (a2 : Int) : Option (Bool) := (field_Div.f k a0 a1).bind fun bt127 => ((ciboriumref03_Div.f k a0 a1).bind fun bt129 => ((field_Add.f a0 a1).bind fun t131 => (if t131 = (Go.bits .xor .u8 a0 a1) then ((field_Mul.f k a0 a1).bind fun t132 => ((ciboriumref03_Mul.f k a0 a1).bind fun t133 => (if t132 = t133 then ((field_Inv.f a0).bind fun t134 => ((ciboriumref03_Inv.f k a0).bind fun t135 => (ciboriumlaw03_FieldReckons.j0 k a0 a2 bt127.1 bt127.2 bt129.1 bt129.2 (t134 != t135)))) else (ciboriumlaw03_FieldReckons.j0 k a0 a2 bt127.1 bt127.2 bt129.1 bt129.2 true)))) else (ciboriumlaw03_FieldReckons.j0 k a0 a2 bt127.1 bt127.2 bt129.1 bt129.2 true))))
theorem ciboriumlaw03_FieldReckons.mono_l : ∀ k, (∀ y0 y1 y2 y3 y4 y5 y6, LeO (ciboriumlaw03_FieldReckons.j0 k y0 y1 y2 y3 y4 y5 y6) (ciboriumlaw03_FieldReckons.j0 (k + 1) y0 y1 y2 y3 y4 y5 y6))
  | 0 => fun _ _ _ _ _ _ _ r h => by simp [ciboriumlaw03_FieldReckons.j0] at h
  | k + 1 => by
    have ih0 := ciboriumlaw03_FieldReckons.mono_l k
    · intro y0 y1 y2 y3 y4 y5 y6
      unfold ciboriumlaw03_FieldReckons.j0
      repeat' first
      | (with_reducible exact ih0 _ _ _ _ _ _ _)
      | (with_reducible exact ciboriumlaw03_works.mono _)
      | (with_reducible exact ciboriumref03_Div.mono _ _ _)
      | (with_reducible exact ciboriumref03_Inv.mono _ _)
      | (with_reducible exact ciboriumref03_Mul.mono _ _ _)
      | (with_reducible exact ciboriumref03_Pow.mono _ _ _)
      | (with_reducible exact field_Div.mono _ _ _)
      | (with_reducible exact field_Mul.mono _ _ _)
      | (with_reducible exact LeO.refl _)
      | (with_reducible exact LeO.none _)
      | (with_reducible refine LeO.ite ?_ ?_)
      | (with_reducible refine LeO.bind ?_ (fun _ => ?_))
      | exact ih0 _ _ _ _ _ _ _
      | exact ciboriumlaw03_works.mono _
      | exact ciboriumref03_Div.mono _ _ _
      | exact ciboriumref03_Inv.mono _ _
      | exact ciboriumref03_Mul.mono _ _ _
      | exact ciboriumref03_Pow.mono _ _ _
      | exact field_Div.mono _ _ _
      | exact field_Mul.mono _ _ _
      | exact LeO.none _
      | refine LeO.ite ?_ ?_
      | refine LeO.bind ?_ (fun _ => ?_)
theorem ciboriumlaw03_FieldReckons.mono : ∀ a0 a1 a2 k, LeO (ciboriumlaw03_FieldReckons.f k a0 a1 a2) (ciboriumlaw03_FieldReckons.f (k + 1) a0 a1 a2) := by
  intro a0 a1 a2 k
  have ih0 := ciboriumlaw03_FieldReckons.mono_l k
  unfold ciboriumlaw03_FieldReckons.f
  repeat' first
      | (with_reducible exact ih0 _ _ _ _ _ _ _)
      | (with_reducible exact ciboriumlaw03_works.mono _)
      | (with_reducible exact ciboriumref03_Div.mono _ _ _)
      | (with_reducible exact ciboriumref03_Inv.mono _ _)
      | (with_reducible exact ciboriumref03_Mul.mono _ _ _)
      | (with_reducible exact ciboriumref03_Pow.mono _ _ _)
      | (with_reducible exact field_Div.mono _ _ _)
      | (with_reducible exact field_Mul.mono _ _ _)
      | (with_reducible exact LeO.refl _)
      | (with_reducible exact LeO.none _)
      | (with_reducible refine LeO.ite ?_ ?_)
      | (with_reducible refine LeO.bind ?_ (fun _ => ?_))
      | exact ih0 _ _ _ _ _ _ _
      | exact ciboriumlaw03_works.mono _
      | exact ciboriumref03_Div.mono _ _ _
      | exact ciboriumref03_Inv.mono _ _
      | exact ciboriumref03_Mul.mono _ _ _
      | exact ciboriumref03_Pow.mono _ _ _
      | exact field_Div.mono _ _ _
      | exact field_Mul.mono _ _ _
      | exact LeO.none _
      | refine LeO.ite ?_ ?_
      | refine LeO.bind ?_ (fun _ => ?_)
set_option maxHeartbeats 8000000 in
set_option maxRecDepth 100000 in
theorem ciboriumlaw03_FieldReckons.calls (k : Nat) (a0 : Int) (a1 : Int) (a2 : Int) (r : Bool) (w : World) (h : ciboriumlaw03_FieldReckons.f k a0 a1 a2 = some r) :
    Calls Try.prog 4 #[.int .u8 a0, .int .u8 a1, .int .i64 a2] w fun e w' => e = .returned (.bool r) ∧ Below w.heap.size w w' := by
  have HB := Aside0.mk (Below.refl w.heap.size w)
  have H : ((field_Div.f k a0 a1).bind fun bt127 => ((ciboriumref03_Div.f k a0 a1).bind fun bt129 => ((field_Add.f a0 a1).bind fun t131 => (if t131 = (Go.bits .xor .u8 a0 a1) then ((field_Mul.f k a0 a1).bind fun t132 => ((ciboriumref03_Mul.f k a0 a1).bind fun t133 => (if t132 = t133 then ((field_Inv.f a0).bind fun t134 => ((ciboriumref03_Inv.f k a0).bind fun t135 => (ciboriumlaw03_FieldReckons.j0 k a0 a2 bt127.1 bt127.2 bt129.1 bt129.2 (t134 != t135)))) else (ciboriumlaw03_FieldReckons.j0 k a0 a2 bt127.1 bt127.2 bt129.1 bt129.2 true)))) else (ciboriumlaw03_FieldReckons.j0 k a0 a2 bt127.1 bt127.2 bt129.1 bt129.2 true))))) = some r := h
  clear h
  replace H := Option.bind_eq_some_iff.mp H
  obtain ⟨⟨t127, t128⟩, A40, H⟩ := H
  replace H : ((ciboriumref03_Div.f k a0 a1).bind fun bt129 => ((field_Add.f a0 a1).bind fun t131 => (if t131 = (Go.bits .xor .u8 a0 a1) then ((field_Mul.f k a0 a1).bind fun t132 => ((ciboriumref03_Mul.f k a0 a1).bind fun t133 => (if t132 = t133 then ((field_Inv.f a0).bind fun t134 => ((ciboriumref03_Inv.f k a0).bind fun t135 => (ciboriumlaw03_FieldReckons.j0 k a0 a2 t127 t128 bt129.1 bt129.2 (t134 != t135)))) else (ciboriumlaw03_FieldReckons.j0 k a0 a2 t127 t128 bt129.1 bt129.2 true)))) else (ciboriumlaw03_FieldReckons.j0 k a0 a2 t127 t128 bt129.1 bt129.2 true)))) = some r := H
  have A4 := Aside0.mk A40
  clear A40
  replace H := Option.bind_eq_some_iff.mp H
  obtain ⟨⟨t129, t130⟩, A50, H⟩ := H
  replace H : ((field_Add.f a0 a1).bind fun t131 => (if t131 = (Go.bits .xor .u8 a0 a1) then ((field_Mul.f k a0 a1).bind fun t132 => ((ciboriumref03_Mul.f k a0 a1).bind fun t133 => (if t132 = t133 then ((field_Inv.f a0).bind fun t134 => ((ciboriumref03_Inv.f k a0).bind fun t135 => (ciboriumlaw03_FieldReckons.j0 k a0 a2 t127 t128 t129 t130 (t134 != t135)))) else (ciboriumlaw03_FieldReckons.j0 k a0 a2 t127 t128 t129 t130 true)))) else (ciboriumlaw03_FieldReckons.j0 k a0 a2 t127 t128 t129 t130 true))) = some r := H
  have A5 := Aside0.mk A50
  clear A50
  have HC6 := Aside0.mk H
  clear H
  go_enter Try.func4, Try.ntmps4
  go_upto_region 3 with (first | ((with_reducible refine gate_callee (f := 13) rfl ?_); refine goesL_ (some 14) rfl rfl Try.func13 (by kernel_rfl) rfl #[.int .u8 a0, .int .u8 a1] rfl (by (try simp only [List.map_toArray, List.map_cons, List.map_nil]); first | done | rfl | (simp only [List.length_drop, List.length_take]; rfl)) ?_; (with_reducible refine (field_Div.calls k a0 a1 t127 t128 _ A4.out).mono ?_); rintro e w7 ⟨rfl, hb⟩; refine ⟨_, rfl, ?_⟩; have n0_ := Aside0.mk (below_step (by repeat (first | (with_reducible first | exact HB.out | apply below_alloc | apply pw_below_drewN | apply below_drew1) | exact HB.out)) hb); clear HB; have HB := n0_; clear n0_; (try clear hb); (try clear hb2); (try clear hk); (try clear hi)) | ((with_reducible refine gate_callee (f := 14) rfl ?_); refine goesL_ (some 20) rfl rfl Try.func14 (by kernel_rfl) rfl #[.int .u8 a0, .int .u8 a1] rfl (by (try simp only [List.map_toArray, List.map_cons, List.map_nil]); first | done | rfl | (simp only [List.length_drop, List.length_take]; rfl)) ?_; (with_reducible refine (ciboriumref03_Div.calls k a0 a1 t129 t130 _ A5.out).mono ?_); rintro e w' ⟨rfl, ⟨nd, rfl⟩⟩; refine ⟨_, rfl, ?_⟩))
  (try simp only [Act.put, List.setIfInBounds_toArray, List.set_cons_zero, List.set_cons_succ])
  go_cut [45] (fun v45 wc => ∃ (kq : Nat) (x45_5 : Bool), v45 = .bool x45_5 ∧ Aside0 (ciboriumlaw03_FieldReckons.j0 kq a0 a2 t127 t128 t129 t130 x45_5 = some r) ∧ Aside0 (kq ≤ k) ∧ Aside0 (Below w.heap.size w wc))
  case first =>
    have H := HC6.out
    clear HC6
    replace H := Option.bind_eq_some_iff.mp H
    obtain ⟨t131, A80, H⟩ := H
    replace H : (if t131 = (Go.bits .xor .u8 a0 a1) then ((field_Mul.f k a0 a1).bind fun t132 => ((ciboriumref03_Mul.f k a0 a1).bind fun t133 => (if t132 = t133 then ((field_Inv.f a0).bind fun t134 => ((ciboriumref03_Inv.f k a0).bind fun t135 => (ciboriumlaw03_FieldReckons.j0 k a0 a2 t127 t128 t129 t130 (t134 != t135)))) else (ciboriumlaw03_FieldReckons.j0 k a0 a2 t127 t128 t129 t130 true)))) else (ciboriumlaw03_FieldReckons.j0 k a0 a2 t127 t128 t129 t130 true)) = some r := H
    have A8 := Aside0.mk A80
    clear A80
    by_cases c9 : t131 = (Go.bits .xor .u8 a0 a1)
    · rw [if_pos c9] at H
      have c9b0 : (t131 == (Go.bits .xor .u8 a0 a1)) = true := beq_iff_eq.mpr c9
      have c9b1 : (t131 != (Go.bits .xor .u8 a0 a1)) = false := bne_eq_false_iff_eq.mpr c9
      clear c9
      (first | rw [c9b0] | (simp only [i64_w, i32_w]; rw [c9b0]) | skip)
      replace H := Option.bind_eq_some_iff.mp H
      obtain ⟨t132, A100, H⟩ := H
      replace H : ((ciboriumref03_Mul.f k a0 a1).bind fun t133 => (if t132 = t133 then ((field_Inv.f a0).bind fun t134 => ((ciboriumref03_Inv.f k a0).bind fun t135 => (ciboriumlaw03_FieldReckons.j0 k a0 a2 t127 t128 t129 t130 (t134 != t135)))) else (ciboriumlaw03_FieldReckons.j0 k a0 a2 t127 t128 t129 t130 true))) = some r := H
      have A10 := Aside0.mk A100
      clear A100
      replace H := Option.bind_eq_some_iff.mp H
      obtain ⟨t133, A110, H⟩ := H
      replace H : (if t132 = t133 then ((field_Inv.f a0).bind fun t134 => ((ciboriumref03_Inv.f k a0).bind fun t135 => (ciboriumlaw03_FieldReckons.j0 k a0 a2 t127 t128 t129 t130 (t134 != t135)))) else (ciboriumlaw03_FieldReckons.j0 k a0 a2 t127 t128 t129 t130 true)) = some r := H
      have A11 := Aside0.mk A110
      clear A110
      by_cases c12 : t132 = t133
      · rw [if_pos c12] at H
        have c12b0 : (t132 == t133) = true := beq_iff_eq.mpr c12
        have c12b1 : (t132 != t133) = false := bne_eq_false_iff_eq.mpr c12
        clear c12
        replace H := Option.bind_eq_some_iff.mp H
        obtain ⟨t134, A130, H⟩ := H
        replace H : ((ciboriumref03_Inv.f k a0).bind fun t135 => (ciboriumlaw03_FieldReckons.j0 k a0 a2 t127 t128 t129 t130 (t134 != t135))) = some r := H
        have A13 := Aside0.mk A130
        clear A130
        replace H := Option.bind_eq_some_iff.mp H
        obtain ⟨t135, A140, H⟩ := H
        replace H : (ciboriumlaw03_FieldReckons.j0 k a0 a2 t127 t128 t129 t130 (t134 != t135)) = some r := H
        have A14 := Aside0.mk A140
        clear A140
        have H' := Aside0.mk H
        clear H
        go_wp2_with (first | ((with_reducible refine gate_callee (f := 15) rfl ?_); refine goesL_ (some 25) rfl rfl Try.func15 (by kernel_rfl) rfl #[.int .u8 a0, .int .u8 a1] rfl (by (try simp only [List.map_toArray, List.map_cons, List.map_nil]); first | done | rfl | (simp only [List.length_drop, List.length_take]; rfl)) ?_; (with_reducible refine (field_Add.calls a0 a1 t131 _ A8.out).mono ?_); rintro e w' ⟨rfl, ⟨nd, rfl⟩⟩; refine ⟨_, rfl, ?_⟩) | (go_at_call 11; (with_reducible refine (field_Mul.calls k a0 a1 t132 _ A10.out).mono ?_); rintro e w' ⟨rfl, ⟨nd, rfl⟩⟩) | (go_at_call 16; (with_reducible refine (ciboriumref03_Mul.calls k a0 a1 t133 _ A11.out).mono ?_); rintro e w' ⟨rfl, ⟨nd, rfl⟩⟩) | (go_at_call 12; (with_reducible refine (field_Inv.calls a0 t134 _ A13.out).mono ?_); rintro e w15 ⟨rfl, hb⟩; have n0_ := Aside0.mk (below_step (by repeat (first | (with_reducible first | exact HB.out | apply below_alloc | apply pw_below_drewN | apply below_drew1) | exact HB.out)) hb); clear HB; have HB := n0_; clear n0_; (try clear hb); (try clear hb2); (try clear hk); (try clear hi)) | (go_at_call 17; (with_reducible refine (ciboriumref03_Inv.calls k a0 t135 _ A14.out).mono ?_); rintro e w' ⟨rfl, ⟨nd, rfl⟩⟩))
        go_meet
        case rel => exact ⟨_, ((t134 != t135)), (by first | rfl | (simp; done) | (simp [*]; done)), H', ⟨by first | omega | exact Nat.le_refl _⟩, ⟨by repeat (first | (with_reducible first | exact HB.out | apply below_alloc | apply pw_below_drewN | apply below_drew1) | exact HB.out)⟩⟩
      · rw [if_neg c12] at H
        have c12b0 : (t132 == t133) = false := beq_eq_false_iff_ne.mpr c12
        have c12b1 : (t132 != t133) = true := bne_iff_ne.mpr c12
        have H' := Aside0.mk H
        clear H
        go_wp2_with (first | ((with_reducible refine gate_callee (f := 15) rfl ?_); refine goesL_ (some 25) rfl rfl Try.func15 (by kernel_rfl) rfl #[.int .u8 a0, .int .u8 a1] rfl (by (try simp only [List.map_toArray, List.map_cons, List.map_nil]); first | done | rfl | (simp only [List.length_drop, List.length_take]; rfl)) ?_; (with_reducible refine (field_Add.calls a0 a1 t131 _ A8.out).mono ?_); rintro e w' ⟨rfl, ⟨nd, rfl⟩⟩; refine ⟨_, rfl, ?_⟩) | (go_at_call 11; (with_reducible refine (field_Mul.calls k a0 a1 t132 _ A10.out).mono ?_); rintro e w' ⟨rfl, ⟨nd, rfl⟩⟩) | (go_at_call 16; (with_reducible refine (ciboriumref03_Mul.calls k a0 a1 t133 _ A11.out).mono ?_); rintro e w' ⟨rfl, ⟨nd, rfl⟩⟩))
        go_meet
        case rel => exact ⟨_, (true), (by first | rfl | (simp; done) | (simp [*]; done)), H', ⟨by first | omega | exact Nat.le_refl _⟩, ⟨by repeat (first | (with_reducible first | exact HB.out | apply below_alloc | apply pw_below_drewN | apply below_drew1) | exact HB.out)⟩⟩
    · rw [if_neg c9] at H
      have c9b0 : (t131 == (Go.bits .xor .u8 a0 a1)) = false := beq_eq_false_iff_ne.mpr c9
      have c9b1 : (t131 != (Go.bits .xor .u8 a0 a1)) = true := bne_iff_ne.mpr c9
      (first | rw [c9b0] | (simp only [i64_w, i32_w]; rw [c9b0]) | skip)
      have H' := Aside0.mk H
      clear H
      go_wp2_with (first | ((with_reducible refine gate_callee (f := 15) rfl ?_); refine goesL_ (some 25) rfl rfl Try.func15 (by kernel_rfl) rfl #[.int .u8 a0, .int .u8 a1] rfl (by (try simp only [List.map_toArray, List.map_cons, List.map_nil]); first | done | rfl | (simp only [List.length_drop, List.length_take]; rfl)) ?_; (with_reducible refine (field_Add.calls a0 a1 t131 _ A8.out).mono ?_); rintro e w' ⟨rfl, ⟨nd, rfl⟩⟩; refine ⟨_, rfl, ?_⟩))
      go_meet
      case rel => exact ⟨_, (true), (by first | rfl | (simp; done) | (simp [*]; done)), H', ⟨by first | omega | exact Nat.le_refl _⟩, ⟨by repeat (first | (with_reducible first | exact HB.out | apply below_alloc | apply pw_below_drewN | apply below_drew1) | exact HB.out)⟩⟩
  case rest =>
    clear HC6
    try clear c1
    try clear p2
    try clear c4
    try clear c9
    try clear c9b0
    try clear c9b1
    try clear c12
    try clear c12b0
    try clear c12b1
    try clear c13
    try clear c14
    try clear c15
    obtain ⟨kq, x45_5, rfl, HA, HJ5, HB⟩ := hcut
    cases kq with
    | zero => exact absurd HA.out (by simp [ciboriumlaw03_FieldReckons.j0])
    | succ kj5 =>
      have H := HA.out
      clear HA
      simp only [ciboriumlaw03_FieldReckons.j0] at H
      by_cases c16 : x45_5 = true
      · subst c16
        have H1 : (some false) = some r := by rw [if_pos rfl] at H; exact H
        clear H
        have H := H1
        clear H1
        obtain rfl := Option.some.inj H
        go_wp2
        go_ret
        exact ⟨by first | rfl | (simp [errW_none, errW_some] <;> rfl) | (simp [*, errW_none, errW_some] <;> rfl), by repeat (first | (with_reducible first | exact HB.out | apply below_alloc | apply pw_below_drewN | apply below_drew1) | exact HB.out)⟩
      · replace c16 := Bool.eq_false_iff.mpr c16
        subst c16
        have H1 : (if t127 = t129 then (if t128 = t130 then ((field_Pow.f a0 a2).bind fun t136 => ((ciboriumref03_Pow.f kj5 a0 a2).bind fun t137 => (if t136 = t137 then ((ciboriumlaw03_works.f kj5).bind fun t138 => (some t138)) else (some false)))) else (some false)) else (some false)) = some r := by rw [if_neg (show ¬ (false = true) by decide)] at H; exact H
        clear H
        have H := H1
        clear H1
        by_cases c17 : t127 = t129
        · rw [if_pos c17] at H
          have c17b0 : (t127 == t129) = true := beq_iff_eq.mpr c17
          have c17b1 : (t127 != t129) = false := bne_eq_false_iff_eq.mpr c17
          clear c17
          by_cases c18 : t128 = t130
          · rw [if_pos c18] at H
            have c18b0 : (t128 == t130) = true := beq_iff_eq.mpr c18
            have c18b1 : (t128 != t130) = false := bne_eq_false_iff_eq.mpr c18
            clear c18
            replace H := Option.bind_eq_some_iff.mp H
            obtain ⟨t136, A190, H⟩ := H
            replace H : ((ciboriumref03_Pow.f kj5 a0 a2).bind fun t137 => (if t136 = t137 then ((ciboriumlaw03_works.f kj5).bind fun t138 => (some t138)) else (some false))) = some r := H
            have A19 := Aside0.mk A190
            clear A190
            replace H := Option.bind_eq_some_iff.mp H
            obtain ⟨t137, A200, H⟩ := H
            replace H : (if t136 = t137 then ((ciboriumlaw03_works.f kj5).bind fun t138 => (some t138)) else (some false)) = some r := H
            have A20 := Aside0.mk A200
            clear A200
            by_cases c21 : t136 = t137
            · rw [if_pos c21] at H
              have c21b0 : (t136 == t137) = true := beq_iff_eq.mpr c21
              have c21b1 : (t136 != t137) = false := bne_eq_false_iff_eq.mpr c21
              clear c21
              replace H := Option.bind_eq_some_iff.mp H
              obtain ⟨t138, A220, H⟩ := H
              replace H : (some t138) = some r := H
              have A22 := Aside0.mk A220
              clear A220
              obtain rfl := Option.some.inj H
              go_wp2_with (first | (go_at_call 9; (with_reducible refine (field_Pow.calls a0 a2 t136 _ A19.out).mono ?_); rintro e w23 ⟨rfl, hb⟩; have n0_ := Aside0.mk (below_step (by repeat (first | (with_reducible first | exact HB.out | apply below_alloc | apply pw_below_drewN | apply below_drew1) | exact HB.out)) hb); clear HB; have HB := n0_; clear n0_; (try clear hb); (try clear hb2); (try clear hk); (try clear hi)) | (go_at_call 18; (with_reducible refine (ciboriumref03_Pow.calls kj5 a0 a2 t137 _ A20.out).mono ?_); rintro e w' ⟨rfl, ⟨nd, rfl⟩⟩) | (go_at_call 10; (with_reducible refine (ciboriumlaw03_works.calls kj5  t138 _ A22.out).mono ?_); rintro e w24 ⟨rfl, hb⟩; have n0_ := Aside0.mk (below_step (by repeat (first | (with_reducible first | exact HB.out | apply below_alloc | apply pw_below_drewN | apply below_drew1) | exact HB.out)) hb); clear HB; have HB := n0_; clear n0_; (try clear hb); (try clear hb2); (try clear hk); (try clear hi)))
              go_ret
              exact ⟨by first | rfl | (simp [errW_none, errW_some] <;> rfl) | (simp [*, errW_none, errW_some] <;> rfl), by repeat (first | (with_reducible first | exact HB.out | apply below_alloc | apply pw_below_drewN | apply below_drew1) | exact HB.out)⟩
            · rw [if_neg c21] at H
              have c21b0 : (t136 == t137) = false := beq_eq_false_iff_ne.mpr c21
              have c21b1 : (t136 != t137) = true := bne_iff_ne.mpr c21
              obtain rfl := Option.some.inj H
              go_wp2_with (first | (go_at_call 9; (with_reducible refine (field_Pow.calls a0 a2 t136 _ A19.out).mono ?_); rintro e w25 ⟨rfl, hb⟩; have n0_ := Aside0.mk (below_step (by repeat (first | (with_reducible first | exact HB.out | apply below_alloc | apply pw_below_drewN | apply below_drew1) | exact HB.out)) hb); clear HB; have HB := n0_; clear n0_; (try clear hb); (try clear hb2); (try clear hk); (try clear hi)) | (go_at_call 18; (with_reducible refine (ciboriumref03_Pow.calls kj5 a0 a2 t137 _ A20.out).mono ?_); rintro e w' ⟨rfl, ⟨nd, rfl⟩⟩))
              go_ret
              exact ⟨by first | rfl | (simp [errW_none, errW_some] <;> rfl) | (simp [*, errW_none, errW_some] <;> rfl), by repeat (first | (with_reducible first | exact HB.out | apply below_alloc | apply pw_below_drewN | apply below_drew1) | exact HB.out)⟩
          · rw [if_neg c18] at H
            have c18b0 : (t128 == t130) = false := beq_eq_false_iff_ne.mpr c18
            have c18b1 : (t128 != t130) = true := bne_iff_ne.mpr c18
            obtain rfl := Option.some.inj H
            go_wp2
            go_ret
            exact ⟨by first | rfl | (simp [errW_none, errW_some] <;> rfl) | (simp [*, errW_none, errW_some] <;> rfl), by repeat (first | (with_reducible first | exact HB.out | apply below_alloc | apply pw_below_drewN | apply below_drew1) | exact HB.out)⟩
        · rw [if_neg c17] at H
          have c17b0 : (t127 == t129) = false := beq_eq_false_iff_ne.mpr c17
          have c17b1 : (t127 != t129) = true := bne_iff_ne.mpr c17
          obtain rfl := Option.some.inj H
          go_wp2
          go_ret
          exact ⟨by first | rfl | (simp [errW_none, errW_some] <;> rfl) | (simp [*, errW_none, errW_some] <;> rfl), by repeat (first | (with_reducible first | exact HB.out | apply below_alloc | apply pw_below_drewN | apply below_drew1) | exact HB.out)⟩

/-- THE ONE PURE STATEMENT of ciboriumlaw03_FieldReckons: yours. -/
def ciboriumlaw03_FieldReckons.Pure : Prop := ∀ (a0 : Int) (a1 : Int) (a2 : Int), (Lit.int .u8 a0).wf = true → (Lit.int .u8 a1).wf = true → (Lit.int .i64 a2).wf = true → ∃ k, ciboriumlaw03_FieldReckons.f k a0 a1 a2 = some true
theorem ciboriumlaw03_FieldReckons.walk (P : ciboriumlaw03_FieldReckons.Pure) (a0 : Int) (a1 : Int) (a2 : Int) (w : World) (w0 : (Lit.int .u8 a0).wf = true) (w1 : (Lit.int .u8 a1).wf = true) (w2 : (Lit.int .i64 a2).wf = true) :
    Calls Try.prog 4 #[.int .u8 a0, .int .u8 a1, .int .i64 a2] w fun e w' => e = .returned (.bool true) ∧ Below w.heap.size w w' := by
  obtain ⟨k, h⟩ := P a0 a1 a2 w0 w1 w2
  refine (ciboriumlaw03_FieldReckons.calls k a0 a1 a2 true w h).mono ?_
  rintro e w' ⟨rfl, hd⟩
  exact ⟨rfl, hd⟩

end Go.Proofs.Ytaadeokgcacibaa.PF3
