/- What is said here: what the Go functions named below answer, each as a plain function with the proof that its call comes to that answer; written by a program out of the translation. No condition. -/
import Derived.Test.YtbebmbcjddibaaaPAx0
import Derived.Test.YtbebmbcjddibaaaPAx1
namespace Go.Proofs.Ytbebmbcjddibaaa.PA
open Go.RowKit Go.Proofs.YtbebmbcjddibaaaW.PrintWords Go.Proofs.YtbebmbcjddibaaaW.PrintLast Go.Proofs.YtbebmbcjddibaaaW.PrintMore
attribute [local go_sem] max2_int min2_int max_two min_two max_three min_three max_four min_four   -- for this text's walks alone
set_option linter.unusedVariables false
set_option linter.unusedSimpArgs false

/-! ### ciboriumref05_Sub: function 28 -/
def ciboriumref05_Sub.l0 : Nat → Int → Int → Int → Option (Int)
  | 0, _, _, _ => none
  | k + 1, x3, x4, x5 => if x5 < 8 then (if 0 ≤ x5 then (if 0 ≤ (Int.tmod (wrap64 (x5 + 4)) 8) then (if 0 ≤ (Int.tmod (wrap64 (x5 + 5)) 8) then (if 0 ≤ (Int.tmod (wrap64 (x5 + 6)) 8) then (if 0 ≤ (Int.tmod (wrap64 (x5 + 7)) 8) then (ciboriumref05_Sub.l0 k x3 (Go.bits .or .u8 x4 (shl .u8 (Int.tmod (Go.bits .xor .u8 (Go.bits .xor .u8 (Go.bits .xor .u8 (Go.bits .xor .u8 (Go.bits .xor .u8 (shr .u8 x3 x5) (shr .u8 x3 (Int.tmod (wrap64 (x5 + 4)) 8))) (shr .u8 x3 (Int.tmod (wrap64 (x5 + 5)) 8))) (shr .u8 x3 (Int.tmod (wrap64 (x5 + 6)) 8))) (shr .u8 x3 (Int.tmod (wrap64 (x5 + 7)) 8))) (shr .u8 99 x5)) 2) x5)) (wrap64 (x5 + 1))) else (none)) else (none)) else (none)) else (none)) else (none)) else (some x4)
def ciboriumref05_Sub.f (k : Nat) (a0 : Int) : Option (Int) := (ciboriumref03_Inv.f k a0).bind fun t104 => (ciboriumref05_Sub.l0 k t104 0 0)
theorem ciboriumref05_Sub.mono_l : ∀ k, (∀ y0 y1 y2, LeO (ciboriumref05_Sub.l0 k y0 y1 y2) (ciboriumref05_Sub.l0 (k + 1) y0 y1 y2))
  | 0 => fun _ _ _ r h => by simp [ciboriumref05_Sub.l0] at h
  | k + 1 => by
    have ih0 := ciboriumref05_Sub.mono_l k
    · intro y0 y1 y2
      unfold ciboriumref05_Sub.l0
      repeat' first
      | (with_reducible exact ih0 _ _ _)
      | (with_reducible exact ciboriumref03_Inv.mono _ _)
      | (with_reducible exact LeO.refl _)
      | (with_reducible exact LeO.none _)
      | (with_reducible refine LeO.ite ?_ ?_)
      | (with_reducible refine LeO.bind ?_ (fun _ => ?_))
      | exact ih0 _ _ _
      | exact ciboriumref03_Inv.mono _ _
      | exact LeO.none _
      | refine LeO.ite ?_ ?_
      | refine LeO.bind ?_ (fun _ => ?_)
theorem ciboriumref05_Sub.mono : ∀ a0 k, LeO (ciboriumref05_Sub.f k a0) (ciboriumref05_Sub.f (k + 1) a0) := by
  intro a0 k
  have ih0 := ciboriumref05_Sub.mono_l k
  unfold ciboriumref05_Sub.f
  repeat' first
      | (with_reducible exact ih0 _ _ _)
      | (with_reducible exact ciboriumref03_Inv.mono _ _)
      | (with_reducible exact LeO.refl _)
      | (with_reducible exact LeO.none _)
      | (with_reducible refine LeO.ite ?_ ?_)
      | (with_reducible refine LeO.bind ?_ (fun _ => ?_))
      | exact ih0 _ _ _
      | exact ciboriumref03_Inv.mono _ _
      | exact LeO.none _
      | refine LeO.ite ?_ ?_
      | refine LeO.bind ?_ (fun _ => ?_)
set_option maxHeartbeats 8000000 in
set_option maxRecDepth 100000 in
theorem ciboriumref05_Sub.calls (k : Nat) (a0 : Int) (r : Int) (w : World) (h : ciboriumref05_Sub.f k a0 = some r) :
    Calls Try.prog 28 #[.int .u8 a0] w fun e w' => e = .returned (.int .u8 r) ∧ Drawn0 w w' := by
  have H : ((ciboriumref03_Inv.f k a0).bind fun t104 => (ciboriumref05_Sub.l0 k t104 0 0)) = some r := h
  clear h
  replace H := Option.bind_eq_some_iff.mp H
  obtain ⟨t104, A20, H⟩ := H
  replace H : (ciboriumref05_Sub.l0 k t104 0 0) = some r := H
  have A2 := Aside0.mk A20
  clear A20
  have H' := Aside0.mk H
  clear H
  go_enter Try.func28, Try.ntmps28
  go_wp2_with (first | (go_at_call 40; (with_reducible refine (ciboriumref03_Inv.calls k a0 t104 _ A2.out).mono ?_); rintro e w' ⟨rfl, ⟨nd, rfl⟩⟩; (try first | exact ⟨rfl, _, World.drewN_drewN _ _ _⟩ | exact ⟨rfl, _, Eq.trans (World.drewN_drewN _ _ _) (congrArg (World.drewN _) (Nat.add_assoc _ _ _))⟩)))
  repeat (go_quiet (first | (go_at_call 40; (with_reducible refine (ciboriumref03_Inv.calls k a0 t104 _ A2.out).mono ?_); rintro e w' ⟨rfl, ⟨nd, rfl⟩⟩; (try first | exact ⟨rfl, _, World.drewN_drewN _ _ _⟩ | exact ⟨rfl, _, Eq.trans (World.drewN_drewN _ _ _) (congrArg (World.drewN _) (Nat.add_assoc _ _ _))⟩))); try go_wp2_with (first | (go_at_call 40; (with_reducible refine (ciboriumref03_Inv.calls k a0 t104 _ A2.out).mono ?_); rintro e w' ⟨rfl, ⟨nd, rfl⟩⟩; (try first | exact ⟨rfl, _, World.drewN_drewN _ _ _⟩ | exact ⟨rfl, _, Eq.trans (World.drewN_drewN _ _ _) (congrArg (World.drewN _) (Nat.add_assoc _ _ _))⟩))))
  go_loopg [4, 5] k (fun kq v4 v5 w' => ∃ (x4_1 : Int) (x5_1 : Int), v4 = .int .u8 x4_1 ∧ v5 = .int .i64 x5_1 ∧ Aside0 (ciboriumref05_Sub.l0 kq t104 x4_1 x5_1 = some r) ∧ Aside0 (kq ≤ k) ∧ Drawn0 w w')
  case atStart => exact ⟨(0), (0), (by first | rfl | (simp; done) | (simp [*]; done)), (by first | rfl | (simp; done) | (simp [*]; done)), H', ⟨Nat.le_refl _⟩, by repeat (first | exact Drawn0.refl _ | apply Drawn0.step)⟩
  case round =>
    clear H'
    try clear c2
    try clear p2
    obtain ⟨x4_1, x5_1, rfl, rfl, HA, HK1, ⟨m1, rfl⟩⟩ := hrel
    cases gk with
    | zero => exact absurd HA.out (by simp [ciboriumref05_Sub.l0])
    | succ k1 =>
      have H := HA.out
      clear HA
      simp only [ciboriumref05_Sub.l0] at H
      by_cases c3 : x5_1 < 8
      · rw [if_pos c3] at H
        have c3b0 : decide (x5_1 < 8) = true := decide_eq_true c3
        clear c3
        by_cases c4 : 0 ≤ x5_1
        · rw [if_pos c4] at H
          have c4b0 := eq_true c4
          have c4b1 : decide (0 ≤ x5_1) = true := decide_eq_true c4
          clear c4
          obtain ⟨ji5, hji5⟩ : ∃ j_ : Int, (shr .u8 t104 x5_1) = j_ := ⟨_, rfl⟩
          replace H : (if 0 ≤ (Int.tmod (wrap64 (x5_1 + 4)) 8) then (if 0 ≤ (Int.tmod (wrap64 (x5_1 + 5)) 8) then (if 0 ≤ (Int.tmod (wrap64 (x5_1 + 6)) 8) then (if 0 ≤ (Int.tmod (wrap64 (x5_1 + 7)) 8) then (ciboriumref05_Sub.l0 k1 t104 (Go.bits .or .u8 x4_1 (shl .u8 (Int.tmod (Go.bits .xor .u8 (Go.bits .xor .u8 (Go.bits .xor .u8 (Go.bits .xor .u8 (Go.bits .xor .u8 (ji5) (shr .u8 t104 (Int.tmod (wrap64 (x5_1 + 4)) 8))) (shr .u8 t104 (Int.tmod (wrap64 (x5_1 + 5)) 8))) (shr .u8 t104 (Int.tmod (wrap64 (x5_1 + 6)) 8))) (shr .u8 t104 (Int.tmod (wrap64 (x5_1 + 7)) 8))) (shr .u8 99 x5_1)) 2) x5_1)) (wrap64 (x5_1 + 1))) else (none)) else (none)) else (none)) else (none)) = some r := by first | (rw [hji5] at H; exact H) | (simp only [hji5] at H ⊢; exact H)
          have hji5_ : (t104 / 2 ^ min x5_1.toNat 8) = ji5 := hji5
          have hji5z : x5_1 ≤ 8 → (t104 / 2 ^ x5_1.toNat) = ji5 := shr_small hji5
          obtain ⟨ji6, hji6⟩ : ∃ j_ : Int, (Int.tmod (wrap64 (x5_1 + 4)) 8) = j_ := ⟨_, rfl⟩
          replace H : (if 0 ≤ (ji6) then (if 0 ≤ (Int.tmod (wrap64 (x5_1 + 5)) 8) then (if 0 ≤ (Int.tmod (wrap64 (x5_1 + 6)) 8) then (if 0 ≤ (Int.tmod (wrap64 (x5_1 + 7)) 8) then (ciboriumref05_Sub.l0 k1 t104 (Go.bits .or .u8 x4_1 (shl .u8 (Int.tmod (Go.bits .xor .u8 (Go.bits .xor .u8 (Go.bits .xor .u8 (Go.bits .xor .u8 (Go.bits .xor .u8 (ji5) (shr .u8 t104 (ji6))) (shr .u8 t104 (Int.tmod (wrap64 (x5_1 + 5)) 8))) (shr .u8 t104 (Int.tmod (wrap64 (x5_1 + 6)) 8))) (shr .u8 t104 (Int.tmod (wrap64 (x5_1 + 7)) 8))) (shr .u8 99 x5_1)) 2) x5_1)) (wrap64 (x5_1 + 1))) else (none)) else (none)) else (none)) else (none)) = some r := by first | (rw [hji6] at H; exact H) | (simp only [hji6] at H ⊢; exact H)
          by_cases c7 : 0 ≤ (ji6)
          · rw [if_pos c7] at H
            have c7b0 := eq_true c7
            have c7b1 : decide (0 ≤ (ji6)) = true := decide_eq_true c7
            clear c7
            obtain ⟨ji8, hji8⟩ : ∃ j_ : Int, (shr .u8 t104 (ji6)) = j_ := ⟨_, rfl⟩
            replace H : (if 0 ≤ (Int.tmod (wrap64 (x5_1 + 5)) 8) then (if 0 ≤ (Int.tmod (wrap64 (x5_1 + 6)) 8) then (if 0 ≤ (Int.tmod (wrap64 (x5_1 + 7)) 8) then (ciboriumref05_Sub.l0 k1 t104 (Go.bits .or .u8 x4_1 (shl .u8 (Int.tmod (Go.bits .xor .u8 (Go.bits .xor .u8 (Go.bits .xor .u8 (Go.bits .xor .u8 (Go.bits .xor .u8 (ji5) (ji8)) (shr .u8 t104 (Int.tmod (wrap64 (x5_1 + 5)) 8))) (shr .u8 t104 (Int.tmod (wrap64 (x5_1 + 6)) 8))) (shr .u8 t104 (Int.tmod (wrap64 (x5_1 + 7)) 8))) (shr .u8 99 x5_1)) 2) x5_1)) (wrap64 (x5_1 + 1))) else (none)) else (none)) else (none)) = some r := by first | (rw [hji8] at H; exact H) | (simp only [hji8] at H ⊢; exact H)
            have hji8_ : (t104 / 2 ^ min (ji6).toNat 8) = ji8 := hji8
            have hji8z : (ji6) ≤ 8 → (t104 / 2 ^ (ji6).toNat) = ji8 := shr_small hji8
            obtain ⟨ji9, hji9⟩ : ∃ j_ : Int, (Int.tmod (wrap64 (x5_1 + 5)) 8) = j_ := ⟨_, rfl⟩
            replace H : (if 0 ≤ (ji9) then (if 0 ≤ (Int.tmod (wrap64 (x5_1 + 6)) 8) then (if 0 ≤ (Int.tmod (wrap64 (x5_1 + 7)) 8) then (ciboriumref05_Sub.l0 k1 t104 (Go.bits .or .u8 x4_1 (shl .u8 (Int.tmod (Go.bits .xor .u8 (Go.bits .xor .u8 (Go.bits .xor .u8 (Go.bits .xor .u8 (Go.bits .xor .u8 (ji5) (ji8)) (shr .u8 t104 (ji9))) (shr .u8 t104 (Int.tmod (wrap64 (x5_1 + 6)) 8))) (shr .u8 t104 (Int.tmod (wrap64 (x5_1 + 7)) 8))) (shr .u8 99 x5_1)) 2) x5_1)) (wrap64 (x5_1 + 1))) else (none)) else (none)) else (none)) = some r := by first | (rw [hji9] at H; exact H) | (simp only [hji9] at H ⊢; exact H)
            by_cases c10 : 0 ≤ (ji9)
            · rw [if_pos c10] at H
              have c10b0 := eq_true c10
              have c10b1 : decide (0 ≤ (ji9)) = true := decide_eq_true c10
              clear c10
              obtain ⟨ji11, hji11⟩ : ∃ j_ : Int, (shr .u8 t104 (ji9)) = j_ := ⟨_, rfl⟩
              replace H : (if 0 ≤ (Int.tmod (wrap64 (x5_1 + 6)) 8) then (if 0 ≤ (Int.tmod (wrap64 (x5_1 + 7)) 8) then (ciboriumref05_Sub.l0 k1 t104 (Go.bits .or .u8 x4_1 (shl .u8 (Int.tmod (Go.bits .xor .u8 (Go.bits .xor .u8 (Go.bits .xor .u8 (Go.bits .xor .u8 (Go.bits .xor .u8 (ji5) (ji8)) (ji11)) (shr .u8 t104 (Int.tmod (wrap64 (x5_1 + 6)) 8))) (shr .u8 t104 (Int.tmod (wrap64 (x5_1 + 7)) 8))) (shr .u8 99 x5_1)) 2) x5_1)) (wrap64 (x5_1 + 1))) else (none)) else (none)) = some r := by first | (rw [hji11] at H; exact H) | (simp only [hji11] at H ⊢; exact H)
              have hji11_ : (t104 / 2 ^ min (ji9).toNat 8) = ji11 := hji11
              have hji11z : (ji9) ≤ 8 → (t104 / 2 ^ (ji9).toNat) = ji11 := shr_small hji11
              obtain ⟨ji12, hji12⟩ : ∃ j_ : Int, (Int.tmod (wrap64 (x5_1 + 6)) 8) = j_ := ⟨_, rfl⟩
              replace H : (if 0 ≤ (ji12) then (if 0 ≤ (Int.tmod (wrap64 (x5_1 + 7)) 8) then (ciboriumref05_Sub.l0 k1 t104 (Go.bits .or .u8 x4_1 (shl .u8 (Int.tmod (Go.bits .xor .u8 (Go.bits .xor .u8 (Go.bits .xor .u8 (Go.bits .xor .u8 (Go.bits .xor .u8 (ji5) (ji8)) (ji11)) (shr .u8 t104 (ji12))) (shr .u8 t104 (Int.tmod (wrap64 (x5_1 + 7)) 8))) (shr .u8 99 x5_1)) 2) x5_1)) (wrap64 (x5_1 + 1))) else (none)) else (none)) = some r := by first | (rw [hji12] at H; exact H) | (simp only [hji12] at H ⊢; exact H)
              by_cases c13 : 0 ≤ (ji12)
              · rw [if_pos c13] at H
                have c13b0 := eq_true c13
                have c13b1 : decide (0 ≤ (ji12)) = true := decide_eq_true c13
                clear c13
                obtain ⟨ji14, hji14⟩ : ∃ j_ : Int, (shr .u8 t104 (ji12)) = j_ := ⟨_, rfl⟩
                replace H : (if 0 ≤ (Int.tmod (wrap64 (x5_1 + 7)) 8) then (ciboriumref05_Sub.l0 k1 t104 (Go.bits .or .u8 x4_1 (shl .u8 (Int.tmod (Go.bits .xor .u8 (Go.bits .xor .u8 (Go.bits .xor .u8 (Go.bits .xor .u8 (Go.bits .xor .u8 (ji5) (ji8)) (ji11)) (ji14)) (shr .u8 t104 (Int.tmod (wrap64 (x5_1 + 7)) 8))) (shr .u8 99 x5_1)) 2) x5_1)) (wrap64 (x5_1 + 1))) else (none)) = some r := by first | (rw [hji14] at H; exact H) | (simp only [hji14] at H ⊢; exact H)
                have hji14_ : (t104 / 2 ^ min (ji12).toNat 8) = ji14 := hji14
                have hji14z : (ji12) ≤ 8 → (t104 / 2 ^ (ji12).toNat) = ji14 := shr_small hji14
                obtain ⟨ji15, hji15⟩ : ∃ j_ : Int, (Int.tmod (wrap64 (x5_1 + 7)) 8) = j_ := ⟨_, rfl⟩
                replace H : (if 0 ≤ (ji15) then (ciboriumref05_Sub.l0 k1 t104 (Go.bits .or .u8 x4_1 (shl .u8 (Int.tmod (Go.bits .xor .u8 (Go.bits .xor .u8 (Go.bits .xor .u8 (Go.bits .xor .u8 (Go.bits .xor .u8 (ji5) (ji8)) (ji11)) (ji14)) (shr .u8 t104 (ji15))) (shr .u8 99 x5_1)) 2) x5_1)) (wrap64 (x5_1 + 1))) else (none)) = some r := by first | (rw [hji15] at H; exact H) | (simp only [hji15] at H ⊢; exact H)
                by_cases c16 : 0 ≤ (ji15)
                · rw [if_pos c16] at H
                  have c16b0 := eq_true c16
                  have c16b1 : decide (0 ≤ (ji15)) = true := decide_eq_true c16
                  clear c16
                  obtain ⟨ji17, hji17⟩ : ∃ j_ : Int, (shr .u8 t104 (ji15)) = j_ := ⟨_, rfl⟩
                  replace H : (ciboriumref05_Sub.l0 k1 t104 (Go.bits .or .u8 x4_1 (shl .u8 (Int.tmod (Go.bits .xor .u8 (Go.bits .xor .u8 (Go.bits .xor .u8 (Go.bits .xor .u8 (Go.bits .xor .u8 (ji5) (ji8)) (ji11)) (ji14)) (ji17)) (shr .u8 99 x5_1)) 2) x5_1)) (wrap64 (x5_1 + 1))) = some r := by first | (rw [hji17] at H; exact H) | (simp only [hji17] at H ⊢; exact H)
                  have hji17_ : (t104 / 2 ^ min (ji15).toNat 8) = ji17 := hji17
                  have hji17z : (ji15) ≤ 8 → (t104 / 2 ^ (ji15).toNat) = ji17 := shr_small hji17
                  have c18b0 := eq_true (of_decide_eq_true (by first | (with_reducible assumption) | assumption) : 0 ≤ x5_1)
                  obtain ⟨ji19, hji19⟩ : ∃ j_ : Int, (shr .u8 99 x5_1) = j_ := ⟨_, rfl⟩
                  replace H : (ciboriumref05_Sub.l0 k1 t104 (Go.bits .or .u8 x4_1 (shl .u8 (Int.tmod (Go.bits .xor .u8 (Go.bits .xor .u8 (Go.bits .xor .u8 (Go.bits .xor .u8 (Go.bits .xor .u8 (ji5) (ji8)) (ji11)) (ji14)) (ji17)) (ji19)) 2) x5_1)) (wrap64 (x5_1 + 1))) = some r := by first | (rw [hji19] at H; exact H) | (simp only [hji19] at H ⊢; exact H)
                  have hji19_ : (99 / 2 ^ min x5_1.toNat 8) = ji19 := hji19
                  have hji19z : x5_1 ≤ 8 → (99 / 2 ^ x5_1.toNat) = ji19 := shr_small hji19
                  have c20b0 := eq_true (of_decide_eq_true (by first | (with_reducible assumption) | assumption) : 0 ≤ x5_1)
                  obtain ⟨ji21, hji21⟩ : ∃ j_ : Int, (shl .u8 (Int.tmod (Go.bits .xor .u8 (Go.bits .xor .u8 (Go.bits .xor .u8 (Go.bits .xor .u8 (Go.bits .xor .u8 (ji5) (ji8)) (ji11)) (ji14)) (ji17)) (ji19)) 2) x5_1) = j_ := ⟨_, rfl⟩
                  replace H : (ciboriumref05_Sub.l0 k1 t104 (Go.bits .or .u8 x4_1 (ji21)) (wrap64 (x5_1 + 1))) = some r := by first | (rw [hji21] at H; exact H) | (simp only [hji21] at H ⊢; exact H)
                  have hji21_ : (IntKind.u8.wrap ((Int.tmod (Go.bits .xor .u8 (Go.bits .xor .u8 (Go.bits .xor .u8 (Go.bits .xor .u8 (Go.bits .xor .u8 (ji5) (ji8)) (ji11)) (ji14)) (ji17)) (ji19)) 2) * 2 ^ min x5_1.toNat 8)) = ji21 := hji21
                  have hji21z : x5_1 ≤ 8 → (IntKind.u8.wrap ((Int.tmod (Go.bits .xor .u8 (Go.bits .xor .u8 (Go.bits .xor .u8 (Go.bits .xor .u8 (Go.bits .xor .u8 (ji5) (ji8)) (ji11)) (ji14)) (ji17)) (ji19)) 2) * 2 ^ x5_1.toNat)) = ji21 := shl_small hji21
                  have H' := Aside0.mk H
                  clear H
                  go_wp2
                  repeat (go_quiet (fail); try go_wp2)
                  go_roundg k1
                  case measure => have := HK1.out; omega
                  case rel => exact ⟨(Go.bits .or .u8 x4_1 (ji21)), (wrap64 (x5_1 + 1)), (by first | rfl | (simp; done) | (simp only [← hji21] <;> (first | rfl | simp)) | (simp [*]; done)), (by first | rfl | (simp; done) | (simp [*]; done)), H', ⟨by have := HK1.out; omega⟩, by repeat (first | exact Drawn0.refl _ | apply Drawn0.step)⟩
                · rw [if_neg c16] at H
                  exact absurd H (by simp)
              · rw [if_neg c13] at H
                exact absurd H (by simp)
            · rw [if_neg c10] at H
              exact absurd H (by simp)
          · rw [if_neg c7] at H
            exact absurd H (by simp)
        · rw [if_neg c4] at H
          exact absurd H (by simp)
      · rw [if_neg c3] at H
        have c3b0 : decide (x5_1 < 8) = false := decide_eq_false c3
        clear c3
        obtain rfl := Option.some.inj H
        go_wp2
        repeat (go_quiet (fail); try go_wp2)
        go_ret
        exact ⟨by first | rfl | (simp; done) | (simp [*]; done), by repeat (first | exact Drawn0.refl _ | apply Drawn0.step)⟩

end Go.Proofs.Ytbebmbcjddibaaa.PA
