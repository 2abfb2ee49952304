/- What is said here: what the Go functions named below answer, each as a plain function with the proof that its call comes to that answer; written by a program out of the translation. No condition. -/
import Derived.Test.YtglnepokollijaaPTx0
namespace Go.Proofs.Ytglnepokollijaa.PT
open Go.RowKit Go.Proofs.YtglnepokollijaaW.PrintWords Go.Proofs.YtglnepokollijaaW.PrintLast Go.Proofs.YtglnepokollijaaW.PrintMore
attribute [local go_sem] max2_int min2_int max_two min_two max_three min_three max_four min_four   -- for this text's walks alone
set_option linter.unusedVariables false
set_option linter.unusedSimpArgs false

/-! ### ciboriumref03_Mul: function 38 -/
def ciboriumref03_Mul.f (k : Nat) (a0 : Int) (a1 : Int) : Option (Int) := Go.Proofs.Ytglnepokollijaa.PA.ciboriumref03_Mul.f k a0 a1
theorem ciboriumref03_Mul.mono : ∀ a0 a1 k, LeO (ciboriumref03_Mul.f k a0 a1) (ciboriumref03_Mul.f (k + 1) a0 a1) := Go.Proofs.Ytglnepokollijaa.PA.ciboriumref03_Mul.mono
theorem ciboriumref03_Mul.calls (k : Nat) (a0 : Int) (a1 : Int) (r : Int) (w : World) (h : ciboriumref03_Mul.f k a0 a1 = some r) :
    Calls Try.prog 38 #[.int .u8 a0, .int .u8 a1] w fun e w' => e = .returned (.int .u8 r) ∧ Drawn0 w w' := Go.Proofs.Ytglnepokollijaa.PA.ciboriumref03_Mul.calls k a0 a1 r w h


/-! ### ciboriumref03_Eval: function 36 -/
def ciboriumref03_Eval.f (k : Nat) (l0 : List Int) (a1 : Int) : Option (Int) := Go.Proofs.Ytglnepokollijaa.PA.ciboriumref03_Eval.f k l0 a1
theorem ciboriumref03_Eval.mono : ∀ a0 a1 k, LeO (ciboriumref03_Eval.f k a0 a1) (ciboriumref03_Eval.f (k + 1) a0 a1) := Go.Proofs.Ytglnepokollijaa.PA.ciboriumref03_Eval.mono
theorem ciboriumref03_Eval.calls (k : Nat) (A0 : Option Addr) (c0 : Nat) (l0 : List Int) (a1 : Int) (r : Int) (w : World) (hr0 : Kd.C (Kd.int .u8) w A0 l0.length l0) (hc0 : l0.length ≤ c0) (h : ciboriumref03_Eval.f k l0 a1 = some r) :
    Calls Try.prog 36 #[.slice A0 l0.length c0, .int .u8 a1] w fun e w' => e = .returned (.int .u8 r) ∧ Drawn0 w w' := Go.Proofs.Ytglnepokollijaa.PA.ciboriumref03_Eval.calls k A0 c0 l0 a1 r w hr0 hc0 h


/-! ### ciboriumref04_Split: function 11 -/
mutual
def ciboriumref04_Split.j0 : Nat → List Int → Int → Int → List Int → Bool → Option ((List (S44)) × Int)
  | 0, _, _, _, _, _ => none
  | k + 1, x0, x1, x2, x3, x25 => if x25 = true then (some (([] : List (S44)), 2)) else (if (x0.length : Int) > 1024 then (some (([] : List (S44)), 3)) else (if (x3.length : Int) = (wrap64 ((wrap64 (x2 - 1)) * (x0.length : Int))) then (ciboriumref04_Split.l0 k x0 x1 x2 x3 ([] : List (S44)) 1) else (some (([] : List (S44)), 41))))
def ciboriumref04_Split.l0 : Nat → List Int → Int → Int → List Int → List (S44) → Int → Option ((List (S44)) × Int)
  | 0, _, _, _, _, _, _ => none
  | k + 1, x0, x1, x2, x3, x10, x11 => if x11 ≤ x1 then (ciboriumref04_Split.l1 k x0 x1 x2 x3 x10 x11 ([] : List Int) 0) else (some (x10, 0))
def ciboriumref04_Split.l1 : Nat → List Int → Int → Int → List Int → List (S44) → Int → List Int → Int → Option ((List (S44)) × Int)
  | 0, _, _, _, _, _, _, _, _ => none
  | k + 1, x0, x1, x2, x3, x10, x11, x12, x13 => if x13 < (x0.length : Int) then (if 0 ≤ x13 then ((some (([rd x0 x13] : List Int) : List Int)).bind fun y133 => (if 0 ≤ (wrap64 ((wrap64 (x2 - 1)) * x13)) then (if (wrap64 ((wrap64 (x2 - 1)) * x13)) ≤ (wrap64 ((wrap64 (x2 - 1)) * (wrap64 (x13 + 1)))) then (if (wrap64 ((wrap64 (x2 - 1)) * (wrap64 (x13 + 1)))) ≤ (x3.length : Int) then (if y133.length + ((x3.take ((wrap64 ((wrap64 (x2 - 1)) * (wrap64 (x13 + 1)))) : Int).toNat).drop ((wrap64 ((wrap64 (x2 - 1)) * x13)) : Int).toNat).length < 140737488355328 then ((ciboriumref03_Eval.f k (y133 ++ ((x3.take ((wrap64 ((wrap64 (x2 - 1)) * (wrap64 (x13 + 1)))) : Int).toNat).drop ((wrap64 ((wrap64 (x2 - 1)) * x13)) : Int).toNat)) ((x11) % 256)).bind fun t140 => (if x12.length < 140737488355328 then (ciboriumref04_Split.l1 k x0 x1 x2 x3 x10 x11 (x12 ++ [t140]) (wrap64 (x13 + 1))) else (none))) else (none)) else (none)) else (none)) else (none))) else (none)) else (if x10.length < 4398046511104 then (ciboriumref04_Split.l0 k x0 x1 x2 x3 (x10 ++ [(⟨(x11) % 256, x12⟩ : S44)]) (wrap64 (x11 + 1))) else (none))
end
def ciboriumref04_Split.f (k : Nat) (l0 : List Int) (a1 : Int) (a2 : Int) (l3 : List Int) : Option ((List (S44)) × Int) := if a2 < 1 then (ciboriumref04_Split.j0 k l0 a1 a2 l3 true) else (if a1 < a2 then (ciboriumref04_Split.j0 k l0 a1 a2 l3 true) else (ciboriumref04_Split.j0 k l0 a1 a2 l3 (decide (a1 > 16))))
theorem ciboriumref04_Split.mono_l : ∀ k, (∀ y0 y1 y2 y3 y4, LeO (ciboriumref04_Split.j0 k y0 y1 y2 y3 y4) (ciboriumref04_Split.j0 (k + 1) y0 y1 y2 y3 y4)) ∧ (∀ y0 y1 y2 y3 y4 y5, LeO (ciboriumref04_Split.l0 k y0 y1 y2 y3 y4 y5) (ciboriumref04_Split.l0 (k + 1) y0 y1 y2 y3 y4 y5)) ∧ (∀ y0 y1 y2 y3 y4 y5 y6 y7, LeO (ciboriumref04_Split.l1 k y0 y1 y2 y3 y4 y5 y6 y7) (ciboriumref04_Split.l1 (k + 1) y0 y1 y2 y3 y4 y5 y6 y7))
  | 0 => ⟨fun _ _ _ _ _ r h => by simp [ciboriumref04_Split.j0] at h, fun _ _ _ _ _ _ r h => by simp [ciboriumref04_Split.l0] at h, fun _ _ _ _ _ _ _ _ r h => by simp [ciboriumref04_Split.l1] at h⟩
  | k + 1 => by
    obtain ⟨ih0, ih1, ih2⟩ := ciboriumref04_Split.mono_l k
    refine ⟨?_, ?_, ?_⟩
    · intro y0 y1 y2 y3 y4
      unfold ciboriumref04_Split.j0
      repeat' first
      | (with_reducible exact ih0 _ _ _ _ _)
      | (with_reducible exact ih1 _ _ _ _ _ _)
      | (with_reducible exact ih2 _ _ _ _ _ _ _ _)
      | (with_reducible exact ciboriumref03_Eval.mono _ _ _)
      | (with_reducible exact LeO.refl _)
      | (with_reducible exact LeO.none _)
      | (with_reducible refine LeO.ite ?_ ?_)
      | (with_reducible refine LeO.bind ?_ (fun _ => ?_))
      | exact ih0 _ _ _ _ _
      | exact ih1 _ _ _ _ _ _
      | exact ih2 _ _ _ _ _ _ _ _
      | exact ciboriumref03_Eval.mono _ _ _
      | exact LeO.none _
      | refine LeO.ite ?_ ?_
      | refine LeO.bind ?_ (fun _ => ?_)
    · intro y0 y1 y2 y3 y4 y5
      unfold ciboriumref04_Split.l0
      repeat' first
      | (with_reducible exact ih0 _ _ _ _ _)
      | (with_reducible exact ih1 _ _ _ _ _ _)
      | (with_reducible exact ih2 _ _ _ _ _ _ _ _)
      | (with_reducible exact ciboriumref03_Eval.mono _ _ _)
      | (with_reducible exact LeO.refl _)
      | (with_reducible exact LeO.none _)
      | (with_reducible refine LeO.ite ?_ ?_)
      | (with_reducible refine LeO.bind ?_ (fun _ => ?_))
      | exact ih0 _ _ _ _ _
      | exact ih1 _ _ _ _ _ _
      | exact ih2 _ _ _ _ _ _ _ _
      | exact ciboriumref03_Eval.mono _ _ _
      | exact LeO.none _
      | refine LeO.ite ?_ ?_
      | refine LeO.bind ?_ (fun _ => ?_)
    · intro y0 y1 y2 y3 y4 y5 y6 y7
      unfold ciboriumref04_Split.l1
      repeat' first
      | (with_reducible exact ih0 _ _ _ _ _)
      | (with_reducible exact ih1 _ _ _ _ _ _)
      | (with_reducible exact ih2 _ _ _ _ _ _ _ _)
      | (with_reducible exact ciboriumref03_Eval.mono _ _ _)
      | (with_reducible exact LeO.refl _)
      | (with_reducible exact LeO.none _)
      | (with_reducible refine LeO.ite ?_ ?_)
      | (with_reducible refine LeO.bind ?_ (fun _ => ?_))
      | exact ih0 _ _ _ _ _
      | exact ih1 _ _ _ _ _ _
      | exact ih2 _ _ _ _ _ _ _ _
      | exact ciboriumref03_Eval.mono _ _ _
      | exact LeO.none _
      | refine LeO.ite ?_ ?_
      | refine LeO.bind ?_ (fun _ => ?_)
theorem ciboriumref04_Split.mono : ∀ a0 a1 a2 a3 k, LeO (ciboriumref04_Split.f k a0 a1 a2 a3) (ciboriumref04_Split.f (k + 1) a0 a1 a2 a3) := by
  intro a0 a1 a2 a3 k
  obtain ⟨ih0, ih1, ih2⟩ := ciboriumref04_Split.mono_l k
  unfold ciboriumref04_Split.f
  repeat' first
      | (with_reducible exact ih0 _ _ _ _ _)
      | (with_reducible exact ih1 _ _ _ _ _ _)
      | (with_reducible exact ih2 _ _ _ _ _ _ _ _)
      | (with_reducible exact ciboriumref03_Eval.mono _ _ _)
      | (with_reducible exact LeO.refl _)
      | (with_reducible exact LeO.none _)
      | (with_reducible refine LeO.ite ?_ ?_)
      | (with_reducible refine LeO.bind ?_ (fun _ => ?_))
      | exact ih0 _ _ _ _ _
      | exact ih1 _ _ _ _ _ _
      | exact ih2 _ _ _ _ _ _ _ _
      | exact ciboriumref03_Eval.mono _ _ _
      | exact LeO.none _
      | refine LeO.ite ?_ ?_
      | refine LeO.bind ?_ (fun _ => ?_)
set_option maxHeartbeats 8000000 in
set_option maxRecDepth 100000 in
theorem ciboriumref04_Split.calls (k : Nat) (A0 : Option Addr) (c0 : Nat) (l0 : List Int) (a1 : Int) (a2 : Int) (A3 : Option Addr) (c3 : Nat) (l3 : List Int) (r1 : List (S44)) (r2 : Int) (w : World) (hr0 : Kd.C (Kd.int .u8) w A0 l0.length l0) (hc0 : l0.length ≤ c0) (hr3 : Kd.C (Kd.int .u8) w A3 l3.length l3) (hc3 : l3.length ≤ c3) (h : ciboriumref04_Split.f k l0 a1 a2 l3 = some (r1, r2)) :
    Calls Try.prog 11 #[.slice A0 l0.length c0, .int .i64 a1, .int .i64 a2, .slice A3 l3.length c3] w fun e w' => ∃ v0_ : Value, e = .returned (.tuple #[v0_, .int .i64 r2]) ∧ Kd.S k44 44 w' w.heap.size (fun _ => True) v0_ r1 ∧ Below w.heap.size w w' := by
  have hu44 := Try.underlying44
  have HR0 := Aside0.mk hr0
  have HC0 := Aside0.mk hc0
  clear hr0 hc0
  have HR3 := Aside0.mk hr3
  have HC3 := Aside0.mk hc3
  clear hr3 hc3
  have HB := Aside0.mk (Below.refl w.heap.size w)
  have H : (if a2 < 1 then (ciboriumref04_Split.j0 k l0 a1 a2 l3 true) else (if a1 < a2 then (ciboriumref04_Split.j0 k l0 a1 a2 l3 true) else (ciboriumref04_Split.j0 k l0 a1 a2 l3 (decide (a1 > 16))))) = some (r1, r2) := h
  clear h
  have HC5 := Aside0.mk H
  clear H
  go_enter Try.func11, Try.ntmps11
  go_upto_region 1 with (fail)
  go_cut [25] (fun v25 wc => ∃ (kq : Nat) (x25_4 : Bool), v25 = .bool x25_4 ∧ Aside0 (ciboriumref04_Split.j0 kq l0 a1 a2 l3 x25_4 = some (r1, r2)) ∧ Aside0 (kq ≤ k) ∧ Aside0 (Below w.heap.size w wc))
  case first =>
    have H := HC5.out
    clear HC5
    by_cases c6 : a2 < 1
    · rw [if_pos c6] at H
      have c6b0 : decide (a2 < 1) = true := decide_eq_true c6
      clear c6
      (first | rw [c6b0] | (simp only [i64_w, i32_w]; rw [c6b0]) | skip)
      have H' := Aside0.mk H
      clear H
      go_wp2
      go_meet
      case rel => exact ⟨_, (true), (by first | rfl | (simp; done) | (simp [*]; done)), H', ⟨by first | omega | exact Nat.le_refl _⟩, ⟨by repeat (first | (with_reducible first | exact HB.out | apply below_alloc | apply pw_below_drewN | apply below_drew1) | exact HB.out)⟩⟩
    · rw [if_neg c6] at H
      have c6b0 : decide (a2 < 1) = false := decide_eq_false c6
      clear c6
      (first | rw [c6b0] | (simp only [i64_w, i32_w]; rw [c6b0]) | skip)
      by_cases c7 : a1 < a2
      · rw [if_pos c7] at H
        have c7b0 : decide (a1 < a2) = true := decide_eq_true c7
        clear c7
        have H' := Aside0.mk H
        clear H
        go_wp2
        go_meet
        case rel => exact ⟨_, (true), (by first | rfl | (simp; done) | (simp [*]; done)), H', ⟨by first | omega | exact Nat.le_refl _⟩, ⟨by repeat (first | (with_reducible first | exact HB.out | apply below_alloc | apply pw_below_drewN | apply below_drew1) | exact HB.out)⟩⟩
      · rw [if_neg c7] at H
        have c7b0 : decide (a1 < a2) = false := decide_eq_false c7
        clear c7
        have H' := Aside0.mk H
        clear H
        go_wp2
        go_meet
        case rel => exact ⟨_, (decide (a1 > 16)), (by first | rfl | (simp; done) | (simp [*]; done)), H', ⟨by first | omega | exact Nat.le_refl _⟩, ⟨by repeat (first | (with_reducible first | exact HB.out | apply below_alloc | apply pw_below_drewN | apply below_drew1) | exact HB.out)⟩⟩
  case rest =>
    clear HC5
    try clear c1
    try clear p2
    try clear c3
    try clear c6
    try clear c6b0
    try clear c7
    try clear c7b0
    obtain ⟨kq, x25_4, rfl, HA, HJ4, HB⟩ := hcut
    cases kq with
    | zero => exact absurd HA.out (by simp [ciboriumref04_Split.j0])
    | succ kj4 =>
      have H := HA.out
      clear HA
      simp only [ciboriumref04_Split.j0] at H
      by_cases c8 : x25_4 = true
      · subst c8
        have H1 : (some (([] : List (S44)), 2)) = some (r1, r2) := by rw [if_pos rfl] at H; exact H
        clear H
        have H := H1
        clear H1
        simp only [Option.some.injEq, Prod.mk.injEq] at H
        obtain ⟨rfl, rfl⟩ := H
        go_wp2
        go_ret2
        exact ⟨_, by first | rfl | (simp [errW_none, errW_some] <;> rfl) | (simp [*, errW_none, errW_some] <;> rfl), by first | exact Kd.S_nil _ _ _ _ _ | exact Kd.N_nil _ _ _ _ _ | exact Kd.V_nil _ _ _ _ _ | exact Kd.Q_nil _ _ _ _ _ | exact Kd.R_nil _ _ _ _ _, by repeat (first | (with_reducible first | exact HB.out | apply below_alloc | apply pw_below_drewN | apply below_drew1) | exact HB.out)⟩
      · replace c8 := Bool.eq_false_iff.mpr c8
        subst c8
        have H1 : (if (l0.length : Int) > 1024 then (some (([] : List (S44)), 3)) else (if (l3.length : Int) = (wrap64 ((wrap64 (a2 - 1)) * (l0.length : Int))) then (ciboriumref04_Split.l0 kj4 l0 a1 a2 l3 ([] : List (S44)) 1) else (some (([] : List (S44)), 41)))) = some (r1, r2) := by rw [if_neg (show ¬ (false = true) by decide)] at H; exact H
        clear H
        have H := H1
        clear H1
        by_cases c9 : (l0.length : Int) > 1024
        · rw [if_pos c9] at H
          have c9b0 : decide (1024 < (l0.length : Int)) = true := decide_eq_true c9
          have c9b1 : decide (1024 < l0.length) = true := decide_eq_true (by omega)
          clear c9
          simp only [Option.some.injEq, Prod.mk.injEq] at H
          obtain ⟨rfl, rfl⟩ := H
          go_wp2
          go_ret2
          exact ⟨_, by first | rfl | (simp [errW_none, errW_some] <;> rfl) | (simp [*, errW_none, errW_some] <;> rfl), by first | exact Kd.S_nil _ _ _ _ _ | exact Kd.N_nil _ _ _ _ _ | exact Kd.V_nil _ _ _ _ _ | exact Kd.Q_nil _ _ _ _ _ | exact Kd.R_nil _ _ _ _ _, by repeat (first | (with_reducible first | exact HB.out | apply below_alloc | apply pw_below_drewN | apply below_drew1) | exact HB.out)⟩
        · rw [if_neg c9] at H
          have c9b0 : decide (1024 < (l0.length : Int)) = false := decide_eq_false c9
          have c9b1 : decide (1024 < l0.length) = false := decide_eq_false (by omega)
          clear c9
          by_cases c10 : (l3.length : Int) = (wrap64 ((wrap64 (a2 - 1)) * (l0.length : Int)))
          · rw [if_pos c10] at H
            have c10b0 : ((l3.length : Int) == (wrap64 ((wrap64 (a2 - 1)) * (l0.length : Int)))) = true := beq_iff_eq.mpr c10
            have c10b1 : ((l3.length : Int) != (wrap64 ((wrap64 (a2 - 1)) * (l0.length : Int)))) = false := bne_eq_false_iff_eq.mpr c10
            clear c10
            have H' := Aside0.mk H
            clear H
            go_wp2
            go_loopg [10, 11] kj4 (fun kq v10 v11 w' => ∃ (x10_2 : List (S44)) (x11_2 : Int), v11 = .int .i64 x11_2 ∧ Aside0 (ciboriumref04_Split.l0 kq l0 a1 a2 l3 x10_2 x11_2 = some (r1, r2)) ∧ Aside0 (kq ≤ kj4) ∧ Aside0 (Kd.S k44 44 w' w.heap.size (fun _ => True) v10 x10_2) ∧ Aside0 (Below w.heap.size w w'))
            case atStart => exact ⟨(([] : List (S44))), (1), (by first | rfl | (simp; done) | (simp [*]; done)), H', ⟨Nat.le_refl _⟩, ⟨by first | exact Kd.S_nil _ _ _ _ _ | exact Kd.N_nil _ _ _ _ _ | exact Kd.V_nil _ _ _ _ _ | exact Kd.Q_nil _ _ _ _ _ | exact Kd.R_nil _ _ _ _ _⟩, ⟨by repeat (first | (with_reducible first | exact HB.out | apply below_alloc | apply pw_below_drewN | apply below_drew1) | exact HB.out)⟩⟩
            case round =>
              clear H'
              try clear c1
              try clear p2
              try clear c3
              try clear c6
              try clear c6b0
              try clear p6
              try clear c7
              try clear c7b0
              try clear c8
              try clear c9
              try clear c9b0
              try clear c9b1
              try clear c10
              try clear c10b0
              try clear c10b1
              try clear p2
              obtain ⟨x10_2, x11_2, rfl, HA, HK2, HO_10, HB⟩ := hrel
              cases gk with
              | zero => exact absurd HA.out (by simp [ciboriumref04_Split.l0])
              | succ k2 =>
                have H := HA.out
                clear HA
                simp only [ciboriumref04_Split.l0] at H
                by_cases c11 : x11_2 ≤ a1
                · rw [if_pos c11] at H
                  have c11b0 : decide (x11_2 ≤ a1) = true := decide_eq_true c11
                  clear c11
                  have H' := Aside0.mk H
                  clear H
                  go_wp2
                  go_loopg [12, 13] k2 (fun kq v12 v13 w' => ∃ (x12_3 : List Int) (x13_3 : Int), v13 = .int .i64 x13_3 ∧ Aside0 (ciboriumref04_Split.l1 kq l0 a1 a2 l3 x10_2 x11_2 x12_3 x13_3 = some (r1, r2)) ∧ Aside0 (kq ≤ k2) ∧ Aside0 (Kd.S k44 44 w' w.heap.size (fun k_ => some k_ ≠ (v12 : Value).ownBlock) u10 x10_2) ∧ Aside0 (Kd.R (Kd.int .u8) 5 w' w.heap.size (fun _ => True) v12 x12_3) ∧ Aside0 (Below w.heap.size w w'))
                  case atStart => exact ⟨(([] : List Int)), (0), (by first | rfl | (simp; done) | (simp [*]; done)), H', ⟨Nat.le_refl _⟩, ⟨by (with_reducible repeat (first | apply Kd.S_alloc | apply Kd.S_drewN | apply Kd.S_drew)); exact Kd.S_mono HO_10.out (fun _ hk => (by simp [Value.ownBlock]))⟩, ⟨by first | exact Kd.R_nil _ _ _ _ _ | exact Kd.N_nil _ _ _ _ _ | exact Kd.V_nil _ _ _ _ _ | exact Kd.Q_nil _ _ _ _ _ | exact Kd.S_nil _ _ _ _ _⟩, ⟨by repeat (first | (with_reducible first | exact HB.out | apply below_alloc | apply pw_below_drewN | apply below_drew1) | exact HB.out)⟩⟩
                  case round =>
                    clear H'
                    try clear c1
                    try clear p2
                    try clear c3
                    try clear c6
                    try clear c6b0
                    try clear p6
                    try clear c7
                    try clear c7b0
                    try clear c8
                    try clear c9
                    try clear c9b0
                    try clear c9b1
                    try clear c10
                    try clear c10b0
                    try clear c10b1
                    try clear c11
                    try clear c11b0
                    try clear p2
                    try clear p6
                    obtain ⟨x12_3, x13_3, rfl, HA, HK3, HO_10, HO_12, HB⟩ := hrel
                    cases gk with
                    | zero => exact absurd HA.out (by simp [ciboriumref04_Split.l1])
                    | succ k3 =>
                      have H := HA.out
                      clear HA
                      simp only [ciboriumref04_Split.l1] at H
                      by_cases c12 : x13_3 < (l0.length : Int)
                      · rw [if_pos c12] at H
                        have c12b0 : decide (x13_3 < (l0.length : Int)) = true := decide_eq_true c12
                        clear c12
                        by_cases c13 : 0 ≤ x13_3
                        · rw [if_pos c13] at H
                          have c13b0 : decide (0 ≤ x13_3) = true := decide_eq_true c13
                          clear c13
                          obtain ⟨y133, hy133⟩ : ∃ y_ : List Int, y_ = (([rd l0 x13_3] : List Int)) := ⟨_, rfl⟩
                          replace H : (if 0 ≤ (wrap64 ((wrap64 (a2 - 1)) * x13_3)) then (if (wrap64 ((wrap64 (a2 - 1)) * x13_3)) ≤ (wrap64 ((wrap64 (a2 - 1)) * (wrap64 (x13_3 + 1)))) then (if (wrap64 ((wrap64 (a2 - 1)) * (wrap64 (x13_3 + 1)))) ≤ (l3.length : Int) then (if y133.length + ((l3.take ((wrap64 ((wrap64 (a2 - 1)) * (wrap64 (x13_3 + 1)))) : Int).toNat).drop ((wrap64 ((wrap64 (a2 - 1)) * x13_3)) : Int).toNat).length < 140737488355328 then ((ciboriumref03_Eval.f k3 (y133 ++ ((l3.take ((wrap64 ((wrap64 (a2 - 1)) * (wrap64 (x13_3 + 1)))) : Int).toNat).drop ((wrap64 ((wrap64 (a2 - 1)) * x13_3)) : Int).toNat)) ((x11_2) % 256)).bind fun t140 => (if x12_3.length < 140737488355328 then (ciboriumref04_Split.l1 k3 l0 a1 a2 l3 x10_2 x11_2 (x12_3 ++ [t140]) (wrap64 (x13_3 + 1))) else (none))) else (none)) else (none)) else (none)) else (none)) = some (r1, r2) := by first | (rw [hy133]; with_reducible exact H) | (have H2_ := (Option.bind_some _ _).symm.trans H; rw [hy133]; with_reducible exact H2_) | (have H2_ := (Option.bind_some _ _).symm.trans H; with_reducible exact H2_) | with_reducible exact H | (rw [hy133]; exact H) | exact H
                          have Ny133 := Aside0.mk hy133
                          clear hy133
                          obtain ⟨ji14, hji14⟩ : ∃ j_ : Int, (wrap64 ((wrap64 (a2 - 1)) * x13_3)) = j_ := ⟨_, rfl⟩
                          replace H : (if 0 ≤ (ji14) then (if (ji14) ≤ (wrap64 ((wrap64 (a2 - 1)) * (wrap64 (x13_3 + 1)))) then (if (wrap64 ((wrap64 (a2 - 1)) * (wrap64 (x13_3 + 1)))) ≤ (l3.length : Int) then (if y133.length + ((l3.take ((wrap64 ((wrap64 (a2 - 1)) * (wrap64 (x13_3 + 1)))) : Int).toNat).drop ((ji14) : Int).toNat).length < 140737488355328 then ((ciboriumref03_Eval.f k3 (y133 ++ ((l3.take ((wrap64 ((wrap64 (a2 - 1)) * (wrap64 (x13_3 + 1)))) : Int).toNat).drop ((ji14) : Int).toNat)) ((x11_2) % 256)).bind fun t140 => (if x12_3.length < 140737488355328 then (ciboriumref04_Split.l1 k3 l0 a1 a2 l3 x10_2 x11_2 (x12_3 ++ [t140]) (wrap64 (x13_3 + 1))) else (none))) else (none)) else (none)) else (none)) else (none)) = some (r1, r2) := by first | (rw [hji14] at H; exact H) | (simp only [hji14] at H ⊢; exact H)
                          have hji14w : (IntKind.i64.wrap ((wrap64 (a2 - 1)) * x13_3)) = ji14 := (i64_w _).trans hji14
                          by_cases c15 : 0 ≤ (ji14)
                          · rw [if_pos c15] at H
                            have c15b0 := eq_true c15
                            have c15b1 : decide (0 ≤ (ji14)) = true := decide_eq_true c15
                            clear c15
                            by_cases c16 : (ji14) ≤ (wrap64 ((wrap64 (a2 - 1)) * (wrap64 (x13_3 + 1))))
                            · rw [if_pos c16] at H
                              have c16b0 := eq_true c16
                              have c16b1 : decide ((ji14) ≤ (wrap64 ((wrap64 (a2 - 1)) * (wrap64 (x13_3 + 1))))) = true := decide_eq_true c16
                              by_cases c17 : (wrap64 ((wrap64 (a2 - 1)) * (wrap64 (x13_3 + 1)))) ≤ (l3.length : Int)
                              · rw [if_pos c17] at H
                                have c17b0 := eq_true c17
                                have c17b1 : decide ((wrap64 ((wrap64 (a2 - 1)) * (wrap64 (x13_3 + 1)))) ≤ (l3.length : Int)) = true := decide_eq_true c17
                                by_cases c18 : y133.length + ((l3.take ((wrap64 ((wrap64 (a2 - 1)) * (wrap64 (x13_3 + 1)))) : Int).toNat).drop ((ji14) : Int).toNat).length < 140737488355328
                                · rw [if_pos c18] at H
                                  have LMc18 := Aside0.mk c18
                                  clear c18
                                  obtain ⟨y137, hy137⟩ : ∃ y_ : List Int, y_ = (y133 ++ ((l3.take ((wrap64 ((wrap64 (a2 - 1)) * (wrap64 (x13_3 + 1)))) : Int).toNat).drop ((ji14) : Int).toNat)) := ⟨_, rfl⟩
                                  replace H : ((ciboriumref03_Eval.f k3 y137 ((x11_2) % 256)).bind fun t140 => (if x12_3.length < 140737488355328 then (ciboriumref04_Split.l1 k3 l0 a1 a2 l3 x10_2 x11_2 (x12_3 ++ [t140]) (wrap64 (x13_3 + 1))) else (none))) = some (r1, r2) := by first | (rw [hy137]; with_reducible exact H) | (have H2_ := (Option.bind_some _ _).symm.trans H; rw [hy137]; with_reducible exact H2_) | (have H2_ := (Option.bind_some _ _).symm.trans H; with_reducible exact H2_) | with_reducible exact H | (rw [hy137]; exact H) | exact H
                                  have Ny137 := Aside0.mk hy137
                                  clear hy137
                                  replace H := Option.bind_eq_some_iff.mp H
                                  obtain ⟨t140, A190, H⟩ := H
                                  replace H : (if x12_3.length < 140737488355328 then (ciboriumref04_Split.l1 k3 l0 a1 a2 l3 x10_2 x11_2 (x12_3 ++ [t140]) (wrap64 (x13_3 + 1))) else (none)) = some (r1, r2) := H
                                  have A19 := Aside0.mk A190
                                  clear A190
                                  by_cases c20 : x12_3.length < 140737488355328
                                  · rw [if_pos c20] at H
                                    have LMc20 := Aside0.mk c20
                                    clear c20
                                    obtain ⟨y141, hy141⟩ : ∃ y_ : List Int, y_ = (x12_3 ++ [t140]) := ⟨_, rfl⟩
                                    replace H : (ciboriumref04_Split.l1 k3 l0 a1 a2 l3 x10_2 x11_2 y141 (wrap64 (x13_3 + 1))) = some (r1, r2) := by first | (rw [hy141]; with_reducible exact H) | (have H2_ := (Option.bind_some _ _).symm.trans H; rw [hy141]; with_reducible exact H2_) | (have H2_ := (Option.bind_some _ _).symm.trans H; with_reducible exact H2_) | with_reducible exact H | (rw [hy141]; exact H) | exact H
                                    have Ny141 := Aside0.mk hy141
                                    clear hy141
                                    have H' := Aside0.mk H
                                    clear H
                                    have p132 : 0 ≤ (x13_3 : Int) := of_decide_eq_true (by first | (with_reducible assumption) | assumption)
                                    have q132 : x13_3 < (l0.length : Int) := of_decide_eq_true (by first | (with_reducible assumption) | assumption)
                                    obtain ⟨ad132, e132, hx132_0⟩ := Kd.at_int HR0.out x13_3 p132 q132
                                    cases e132
                                    replace hx132_0 := (HB.out.cell (World.block_lt_of_cell? w _ hx132_0)).trans hx132_0
                                    replace p132 := eq_true p132
                                    replace q132 := eq_true q132
                                    go_wp2_with (first | ((with_reducible refine gate_dst (N := 52) rfl ?_); refine Kd.R_lit (Kd.int .u8) _ 5 ?hg (N := 52) ?hd (xs := ([rd l0 x13_3] : List Int)) (inner := [.int .u8 (rd l0 x13_3)]) (ok := fun _ => True) (okp := fun _ => True) ?hr ?hp (fun _ hk => hk) trivial (Below.refl _ _) (Nat.le_refl _) (by simp) ?_; (case hd => rfl); (case hg => rfl); (case hr => first | (go_simp; done) | (go_simp; rfl)); (case hp => exact (Reps.one (show Kd.M (Kd.int .u8) _ _ _ (rd l0 x13_3) [.int .u8 (rd l0 x13_3)] from rfl) (Reps.none _ _))); intro v134 w21 ho22 hb hg_ hnew_; clear hg_ hnew_; (first | rw [← Ny133.out] at ho22 | (simp only [Int.reduceToNat] at ho22; rw [← Ny133.out] at ho22)); have n0_ := Aside0.mk (Kd.S_elder' (by (with_reducible repeat (first | apply Kd.S_alloc | apply Kd.S_drewN | apply Kd.S_drew)); exact HO_10.out) (Kd.R_base ho22) hb); have n1_ := Aside0.mk (Kd.R_elder' (by (with_reducible repeat (first | apply Kd.R_alloc | apply Kd.R_drewN | apply Kd.R_drew)); exact HO_12.out) (Kd.R_base ho22) hb); have n2_ := Aside0.mk (Kd.R_lower (Kd.R_new' ho22 (Kd.R_lt (by (with_reducible repeat (first | apply Kd.R_alloc | apply Kd.R_drewN | apply Kd.R_drew)); exact HO_12.out))) (below_size (by repeat (first | (with_reducible first | exact HB.out | apply below_alloc | apply pw_below_drewN | apply below_drew1) | exact HB.out)))); have n3_ := Aside0.mk (below_step (by repeat (first | (with_reducible first | exact HB.out | apply below_alloc | apply pw_below_drewN | apply below_drew1) | exact HB.out)) hb); clear HO_10; clear HO_12; clear HB; have HO_10 := n0_; have HO_12 := n1_; have HO135 := n2_; have HB := n3_; clear n0_ n1_ n2_ n3_; clear hb ho22; obtain ⟨i023, hi023, _, hsz23, _⟩ := info_parts info5; obtain ⟨A23, hcut23, hA23, hC23⟩ := print_mid_of (P := Try.prog) (Value.int .u8) 0 22 5 .i64 .i64 Try.underlying22 hi023 hsz23 A3 c3 l3 (ji14) (wrap64 ((wrap64 (a2 - 1)) * (wrap64 (x13_3 + 1)))) (of_decide_eq_true (by first | (with_reducible assumption) | assumption)) (by first | omega | exact of_decide_eq_true (by first | (with_reducible assumption) | assumption)) (of_decide_eq_true (by first | (with_reducible assumption) | assumption)) HC3.out; have HR136 := Aside0.mk (Kd.C_of_reads (h1 := fun _ => rfl) (hA23 _ (Kd.reads_of_C HR3.out))); have HC136 := Aside0.mk hC23; clear hA23 hC23 hi023 hsz23) | ((with_reducible refine gate_builtin (b := .append) (xs := #[.tmp 53, .tmp 64]) rfl ?_); at_builtin; refine Kd.R_append_rows (Kd.int .u8) (w0 := w) w.heap.size rfl (.tmp 53) (.tmp 64) 22 5 (.int .u8 0) 1 rfl Try.underlying22 info5 rfl (by decide) (by omega) v134 y133 ((l3.take ((wrap64 ((wrap64 (a2 - 1)) * (wrap64 (x13_3 + 1)))) : Int).toNat).drop ((ji14) : Int).toNat) _ _ _ (fun k_ => some k_ ≠ (u12 : Value).ownBlock) (fun _ => False) rfl rfl ?aO ?aR (fun _ _ h => h) (fun _ h => h.elim) ?aF ?aB ?aS ?aL ?_; (case aR => first | (rw [← show ((l3.take ((wrap64 ((wrap64 (a2 - 1)) * (wrap64 (x13_3 + 1)))) : Int).toNat).drop ((ji14) : Int).toNat).length = ((wrap64 ((wrap64 (a2 - 1)) * (wrap64 (x13_3 + 1)))).toNat - (ji14).toNat) from (by rw [List.length_drop, List.length_take]; have h_ : ((wrap64 ((wrap64 (a2 - 1)) * (wrap64 (x13_3 + 1)))) : Int) ≤ (l3.length : Int) := of_decide_eq_true (by first | (with_reducible assumption) | assumption); omega)]; repeat (first | exact (Kd.C_below HR136.out HB.out) | (with_reducible refine Kd.C_alloc ?_ _) | (with_reducible refine Kd.C_drewN ?_ _) | (with_reducible refine Kd.C_drew ?_))) | (repeat (first | exact (Kd.C_below HR136.out HB.out) | (with_reducible refine Kd.C_alloc ?_ _) | (with_reducible refine Kd.C_drewN ?_ _) | (with_reducible refine Kd.C_drew ?_)))); (case aB => exact (by repeat (first | (with_reducible first | exact HB.out | apply below_alloc | apply pw_below_drewN | apply below_drew1) | exact HB.out))); (case aF => exact (fun k_ hk => Kd.fresh' (Kd.R_lt (by (with_reducible repeat (first | apply Kd.R_alloc | apply Kd.R_drewN | apply Kd.R_drew)); exact HO_12.out)) k_ hk)); (case aO => exact (by (with_reducible repeat (first | apply Kd.R_alloc | apply Kd.R_drewN | apply Kd.R_drew)); exact Kd.R_mono HO135.out (fun _ hk => hk.2))); (case aS => exact (below_size (by repeat (first | (with_reducible first | exact HB.out | apply below_alloc | apply pw_below_drewN | apply below_drew1) | exact HB.out)))); (case aL => have := LMc18.out; have hlx_ := (show ((l3.take ((wrap64 ((wrap64 (a2 - 1)) * (wrap64 (x13_3 + 1)))) : Int).toNat).drop ((ji14) : Int).toNat).length = ((wrap64 ((wrap64 (a2 - 1)) * (wrap64 (x13_3 + 1)))).toNat - (ji14).toNat) from (by rw [List.length_drop, List.length_take]; have h_ : ((wrap64 ((wrap64 (a2 - 1)) * (wrap64 (x13_3 + 1)))) : Int) ≤ (l3.length : Int) := of_decide_eq_true (by first | (with_reducible assumption) | assumption); omega)); omega); intro v138 w24 ho hb hg hat; rw [← Ny137.out] at ho; have n0_ := Aside0.mk (Kd.S_after (ok := (fun k_ => some k_ ≠ (u12 : Value).ownBlock)) (by (with_reducible repeat (first | apply Kd.S_alloc | apply Kd.S_drewN | apply Kd.S_drew)); exact HO_10.out) hg hat); have n1_ := Aside0.mk (Kd.R_after (ok := (fun _ => True)) (by (with_reducible repeat (first | apply Kd.R_alloc | apply Kd.R_drewN | apply Kd.R_drew)); exact HO_12.out) hg hat); have n2_ := Aside0.mk (hb); have n3_ := Aside0.mk (ho); clear HO_10; clear HO_12; clear HB; clear HO135; have HO_10 := n0_; have HO_12 := n1_; have HB := n2_; have HO139 := n3_; clear n0_ n1_ n2_ n3_; clear ho hb hg hat; obtain ⟨Ao25, co25, eo25⟩ := Kd.R_slice HO139.out; subst eo25) | ((with_reducible refine gate_callee (f := 36) rfl ?_); refine goesL_ (some 70) rfl rfl Try.func36 (by kernel_rfl) rfl #[.slice Ao25 y137.length co25, .int .u8 ((x11_2) % 256)] rfl (by (try simp only [List.map_toArray, List.map_cons, List.map_nil]); first | done | rfl | (simp only [List.length_drop, List.length_take]; rfl)) ?_; (with_reducible refine (ciboriumref03_Eval.calls k3 _ _ y137 ((x11_2) % 256) t140 _ ?side1 ?side2 A19.out).mono ?_); (case side1 => repeat (first | exact (Kd.R_reads' HO139.out).2.2 | (with_reducible refine Kd.C_alloc ?_ _) | (with_reducible refine Kd.C_drewN ?_ _) | (with_reducible refine Kd.C_drew ?_))); (case side2 => exact (Kd.R_reads' HO139.out).2.1); rintro e w' ⟨rfl, ⟨nd, rfl⟩⟩; refine ⟨_, rfl, ?_⟩) | ((with_reducible refine gate_builtin (b := .append) (xs := #[.tmp 66, .tmp 71]) rfl ?_); at_builtin; refine Kd.R_append (Kd.int .u8) (w0 := w) w.heap.size rfl (.tmp 66) (.tmp 71) 22 5 (.int .u8 0) 1 rfl Try.underlying22 info5 rfl (by decide) (by omega) u12 x12_3 t140 [.int .u8 t140] (fun k_ => some k_ ≠ (.slice Ao25 y137.length co25 : Value).ownBlock) (fun _ => False) rfl rfl ?aP (fun _ hk => hk.elim) ?aF ?aO ?aB ?aS ?aL ?_; (case aP => exact rfl); (case aB => exact (by repeat (first | (with_reducible first | exact HB.out | apply below_alloc | apply pw_below_drewN | apply below_drew1) | exact HB.out))); (case aF => exact (fun k_ hk => Kd.fresh' (Kd.R_lt (by (with_reducible repeat (first | apply Kd.R_alloc | apply Kd.R_drewN | apply Kd.R_drew)); exact HO139.out)) k_ hk)); (case aO => exact (by (with_reducible repeat (first | apply Kd.R_alloc | apply Kd.R_drewN | apply Kd.R_drew)); exact Kd.R_mono HO_12.out (fun _ hk => hk.2))); (case aS => exact (below_size (by repeat (first | (with_reducible first | exact HB.out | apply below_alloc | apply pw_below_drewN | apply below_drew1) | exact HB.out)))); (case aL => have := LMc20.out; omega); intro v142 w26 ho hb hg hat; rw [← Ny141.out] at ho; have n0_ := Aside0.mk (Kd.S_after (ok := (fun k_ => some k_ ≠ (.slice Ao25 y137.length co25 : Value).ownBlock)) (by (with_reducible repeat (first | apply Kd.S_alloc | apply Kd.S_drewN | apply Kd.S_drew)); exact Kd.S_mono HO_10.out (fun _ hk => ⟨hk.2, hk.1⟩)) hg hat); have n1_ := Aside0.mk (Kd.R_after (ok := (fun _ => True)) (by (with_reducible repeat (first | apply Kd.R_alloc | apply Kd.R_drewN | apply Kd.R_drew)); exact Kd.R_mono HO139.out (fun _ hk => ⟨trivial, hk⟩)) hg hat); have n2_ := Aside0.mk (hb); have n3_ := Aside0.mk (ho); clear HO_10; clear HO139; clear HB; clear HO_12; have HO_10 := n0_; have HO139 := n1_; have HB := n2_; have HO143 := n3_; clear n0_ n1_ n2_ n3_; clear ho hb hg hat))
                                    go_roundg k3
                                    case measure => have := HJ4.out; have := HK2.out; have := HK3.out; omega
                                    case rel => exact ⟨(y141), (wrap64 (x13_3 + 1)), (by first | rfl | (simp; done) | (simp [*]; done)), H', ⟨by have := HJ4.out; have := HK2.out; have := HK3.out; omega⟩, ⟨by (with_reducible repeat (first | apply Kd.S_alloc | apply Kd.S_drewN | apply Kd.S_drew)); exact Kd.S_mono HO_10.out (fun _ hk => hk.2)⟩, ⟨by (with_reducible repeat (first | apply Kd.R_alloc | apply Kd.R_drewN | apply Kd.R_drew)); exact Kd.R_mono HO143.out (fun _ hk => trivial)⟩, ⟨by repeat (first | (with_reducible first | exact HB.out | apply below_alloc | apply pw_below_drewN | apply below_drew1) | exact HB.out)⟩⟩
                                  · rw [if_neg c20] at H
                                    exact absurd H (by simp)
                                · rw [if_neg c18] at H
                                  exact absurd H (by simp)
                              · rw [if_neg c17] at H
                                exact absurd H (by simp)
                            · rw [if_neg c16] at H
                              exact absurd H (by simp)
                          · rw [if_neg c15] at H
                            exact absurd H (by simp)
                        · rw [if_neg c13] at H
                          exact absurd H (by simp)
                      · rw [if_neg c12] at H
                        have c12b0 : decide (x13_3 < (l0.length : Int)) = false := decide_eq_false c12
                        clear c12
                        by_cases c27 : x10_2.length < 4398046511104
                        · rw [if_pos c27] at H
                          have LMc27 := Aside0.mk c27
                          clear c27
                          obtain ⟨y144, hy144⟩ : ∃ y_ : List (S44), y_ = (x10_2 ++ [(⟨(x11_2) % 256, x12_3⟩ : S44)]) := ⟨_, rfl⟩
                          replace H : (ciboriumref04_Split.l0 k3 l0 a1 a2 l3 y144 (wrap64 (x11_2 + 1))) = some (r1, r2) := by first | (rw [hy144]; with_reducible exact H) | (have H2_ := (Option.bind_some _ _).symm.trans H; rw [hy144]; with_reducible exact H2_) | (have H2_ := (Option.bind_some _ _).symm.trans H; with_reducible exact H2_) | with_reducible exact H | (rw [hy144]; exact H) | exact H
                          have Ny144 := Aside0.mk hy144
                          clear hy144
                          have H' := Aside0.mk H
                          clear H
                          obtain ⟨Ao28, co28, eo28⟩ := Kd.R_slice HO_12.out
                          subst eo28
                          go_wp2_with (first | ((with_reducible refine gate_builtin (b := .append) (xs := #[.tmp 73, .tmp 78]) rfl ?_); at_builtin; refine Kd.S_append k44 (w0 := w) w.heap.size rfl (.tmp 73) (.tmp 78) 27 44 (.agg #[(.int .u8 0), (.slice none 0 0)]) 32 rfl Try.underlying27 info44 rfl (by decide) (by omega) u10 x10_2 (⟨(x11_2) % 256, x12_3⟩ : S44) [.int .u8 ((x11_2) % 256), .slice Ao28 x12_3.length co28] (fun _ => True) (fun k_ => some k_ = (.slice Ao28 x12_3.length co28 : Value).ownBlock) rfl rfl ?aP (fun k_ hk_ => ((Kd.R_mono (ok' := fun k_ => ((fun _ => True)) k_ ∧ some k_ ≠ (u10 : Value).ownBlock) (Kd.R_apart' (HO_12.out) (Kd.S_typed HO_10.out) (by decide)) (fun k_ hk => ⟨trivial, hk.2⟩))).1 k_ hk_.symm) ?aF ?aO ?aB ?aS ?aL ?_; (case aP => exact k44_mkM _ _ _ (⟨(x11_2) % 256, x12_3⟩ : S44) (Kd.R_mono (Kd.R_tight rfl (Kd.R_mono (ok' := fun k_ => ((fun _ => True)) k_ ∧ some k_ ≠ (u10 : Value).ownBlock) (Kd.R_apart' (HO_12.out) (Kd.S_typed HO_10.out) (by decide)) (fun k_ hk => ⟨trivial, hk.2⟩))) (fun _ h_ => h_))); (case aB => exact (by repeat (first | (with_reducible first | exact HB.out | apply below_alloc | apply pw_below_drewN | apply below_drew1) | exact HB.out))); (case aF => exact (fun _ _ => trivial)); (case aO => exact (by (with_reducible repeat (first | apply Kd.S_alloc | apply Kd.S_drewN | apply Kd.S_drew)); exact Kd.S_mono HO_10.out (fun k_ hk => ⟨trivial, fun e_ => hk e_⟩))); (case aS => exact (below_size (by repeat (first | (with_reducible first | exact HB.out | apply below_alloc | apply pw_below_drewN | apply below_drew1) | exact HB.out)))); (case aL => have := LMc27.out; omega); intro v145 w29 ho hb hg hat; rw [← Ny144.out] at ho; have n0_ := Aside0.mk (hb); have n1_ := Aside0.mk (ho); clear HB; clear HO_10; clear HO_12; have HB := n0_; have HO146 := n1_; clear n0_ n1_; clear ho hb hg hat))
                          go_roundg k3
                          case measure => have := HJ4.out; have := HK2.out; have := HK3.out; omega
                          case rel => exact ⟨(y144), (wrap64 (x11_2 + 1)), (by first | rfl | (simp; done) | (simp [*]; done)), H', ⟨by have := HJ4.out; have := HK2.out; have := HK3.out; omega⟩, ⟨by (with_reducible repeat (first | apply Kd.S_alloc | apply Kd.S_drewN | apply Kd.S_drew)); exact HO146.out⟩, ⟨by repeat (first | (with_reducible first | exact HB.out | apply below_alloc | apply pw_below_drewN | apply below_drew1) | exact HB.out)⟩⟩
                        · rw [if_neg c27] at H
                          exact absurd H (by simp)
                · rw [if_neg c11] at H
                  have c11b0 : decide (x11_2 ≤ a1) = false := decide_eq_false c11
                  clear c11
                  simp only [Option.some.injEq, Prod.mk.injEq] at H
                  obtain ⟨rfl, rfl⟩ := H
                  go_wp2
                  go_ret2
                  exact ⟨_, by first | rfl | (simp [errW_none, errW_some] <;> rfl) | (simp [*, errW_none, errW_some] <;> rfl), by (with_reducible repeat (first | apply Kd.S_alloc | apply Kd.S_drewN | apply Kd.S_drew)); exact HO_10.out, by repeat (first | (with_reducible first | exact HB.out | apply below_alloc | apply pw_below_drewN | apply below_drew1) | exact HB.out)⟩
          · rw [if_neg c10] at H
            have c10b0 : ((l3.length : Int) == (wrap64 ((wrap64 (a2 - 1)) * (l0.length : Int)))) = false := beq_eq_false_iff_ne.mpr c10
            have c10b1 : ((l3.length : Int) != (wrap64 ((wrap64 (a2 - 1)) * (l0.length : Int)))) = true := bne_iff_ne.mpr c10
            simp only [Option.some.injEq, Prod.mk.injEq] at H
            obtain ⟨rfl, rfl⟩ := H
            go_wp2
            go_ret2
            exact ⟨_, by first | rfl | (simp [errW_none, errW_some] <;> rfl) | (simp [*, errW_none, errW_some] <;> rfl), by first | exact Kd.S_nil _ _ _ _ _ | exact Kd.N_nil _ _ _ _ _ | exact Kd.V_nil _ _ _ _ _ | exact Kd.Q_nil _ _ _ _ _ | exact Kd.R_nil _ _ _ _ _, by repeat (first | (with_reducible first | exact HB.out | apply below_alloc | apply pw_below_drewN | apply below_drew1) | exact HB.out)⟩

/-! ### ciboriumref03_Inv: function 45 -/
def ciboriumref03_Inv.f (k : Nat) (a0 : Int) : Option (Int) := Go.Proofs.Ytglnepokollijaa.PA.ciboriumref03_Inv.f k a0
theorem ciboriumref03_Inv.mono : ∀ a0 k, LeO (ciboriumref03_Inv.f k a0) (ciboriumref03_Inv.f (k + 1) a0) := Go.Proofs.Ytglnepokollijaa.PA.ciboriumref03_Inv.mono
theorem ciboriumref03_Inv.calls (k : Nat) (a0 : Int) (r : Int) (w : World) (h : ciboriumref03_Inv.f k a0 = some r) :
    Calls Try.prog 45 #[.int .u8 a0] w fun e w' => e = .returned (.int .u8 r) ∧ Drawn0 w w' := Go.Proofs.Ytglnepokollijaa.PA.ciboriumref03_Inv.calls k a0 r w h


/-! ### ciboriumref03_Div: function 37 -/
def ciboriumref03_Div.f (k : Nat) (a0 : Int) (a1 : Int) : Option (Int × Int) := Go.Proofs.Ytglnepokollijaa.PA.ciboriumref03_Div.f k a0 a1
theorem ciboriumref03_Div.mono : ∀ a0 a1 k, LeO (ciboriumref03_Div.f k a0 a1) (ciboriumref03_Div.f (k + 1) a0 a1) := Go.Proofs.Ytglnepokollijaa.PA.ciboriumref03_Div.mono
theorem ciboriumref03_Div.calls (k : Nat) (a0 : Int) (a1 : Int) (r1 : Int) (r2 : Int) (w : World) (h : ciboriumref03_Div.f k a0 a1 = some (r1, r2)) :
    Calls Try.prog 37 #[.int .u8 a0, .int .u8 a1] w fun e w' => e = .returned (.tuple #[.int .u8 r1, .int .i64 r2]) ∧ Drawn0 w w' := Go.Proofs.Ytglnepokollijaa.PA.ciboriumref03_Div.calls k a0 a1 r1 r2 w h


/-! ### ciboriumref03_AtZero: function 40 -/
def ciboriumref03_AtZero.f (k : Nat) (l0 : List Int) (l1 : List Int) : Option (Int × Int) := Go.Proofs.Ytglnepokollijaa.PA.ciboriumref03_AtZero.f k l0 l1
theorem ciboriumref03_AtZero.mono : ∀ a0 a1 k, LeO (ciboriumref03_AtZero.f k a0 a1) (ciboriumref03_AtZero.f (k + 1) a0 a1) := Go.Proofs.Ytglnepokollijaa.PA.ciboriumref03_AtZero.mono
theorem ciboriumref03_AtZero.calls (k : Nat) (A0 : Option Addr) (c0 : Nat) (l0 : List Int) (A1 : Option Addr) (c1 : Nat) (l1 : List Int) (r1 : Int) (r2 : Int) (w : World) (hr0 : Kd.C (Kd.int .u8) w A0 l0.length l0) (hc0 : l0.length ≤ c0) (hr1 : Kd.C (Kd.int .u8) w A1 l1.length l1) (hc1 : l1.length ≤ c1) (h : ciboriumref03_AtZero.f k l0 l1 = some (r1, r2)) :
    Calls Try.prog 40 #[.slice A0 l0.length c0, .slice A1 l1.length c1] w fun e w' => e = .returned (.tuple #[.int .u8 r1, .int .i64 r2]) ∧ Drawn0 w w' := Go.Proofs.Ytglnepokollijaa.PA.ciboriumref03_AtZero.calls k A0 c0 l0 A1 c1 l1 r1 r2 w hr0 hc0 hr1 hc1 h


end Go.Proofs.Ytglnepokollijaa.PT
