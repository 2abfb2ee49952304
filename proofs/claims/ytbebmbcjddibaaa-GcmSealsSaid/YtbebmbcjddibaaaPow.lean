/- What is said here: field.Pow answers the power, of every byte and every int. -/
import Derived.WalkKit
import Derived.Outline
import Derived.Lib.Hide
import Derived.Test.YtbebmbcjddibaaaLogs
namespace Go.Proofs.Ytbebmbcjddibaaa.Pow
set_option linter.unusedVariables false
set_option linter.unusedSimpArgs false
open Go.RowKit Go.Proofs.Ytbebmbcjddibaaa.Tab
theorem ld40 (x : Value) : Instr.loadAt 89 x = Blk.ld 89 x := rfl
theorem ld41 (x : Value) : Instr.loadAt 90 x = Blk.ld 90 x := rfl
theorem st40 (x v : Value) : Instr.storeAt 89 x v = Blk.st 89 x v := rfl
theorem st41 (x v : Value) : Instr.storeAt 90 x v = Blk.st 90 x v := rfl
attribute [local go_sem ↓] ld40 ld41 st40 st41

theorem pow_zero (a : Int) (w : World) : Calls Try.prog 52 #[.int .u8 a, .int .i64 0] w fun e w' => e = .returned (.int .u8 1) ∧ w = w' := by
  go_enter Try.func52, Try.ntmps52
  go_wp2
  go_ret
  exact ⟨rfl, rfl⟩
theorem pow_nought (n : Int) (hn : n ≠ 0) (w : World) : Calls Try.prog 52 #[.int .u8 0, .int .i64 n] w fun e w' => e = .returned (.int .u8 0) ∧ w = w' := by
  have h0 : (n == 0) = false := by simpa using hn
  clear hn
  go_enter Try.func52, Try.ntmps52
  go_wp2
  go_ret
  exact ⟨rfl, rfl⟩

set_option maxRecDepth 100000 in
set_option maxHeartbeats 1000000 in
theorem pow_else (a n : Int) (h0 : 0 ≤ a) (h1 : a < 256) (ha : a ≠ 0) (hn : n ≠ 0) (hn1 : -9223372036854775808 ≤ n) (hn2 : n ≤ 9223372036854775807) (w : World) :
    Calls Try.prog 52 #[.int .u8 a, .int .i64 n] w fun e w' => e = .returned (.int .u8 (expI ((logI a * n.tmod 255).tmod 255 % 255))) ∧ Below w.heap.size w w' := by
  have hn0 : (n == 0) = false := by simpa using hn
  have ha0 : (a == 0) = false := by simpa using ha
  have hz0 := Logs.zero40
  have hz1 := Logs.zero41
  obtain ⟨c0, c1, c2⟩ := LT_cell a h0 h1
  go_enter Try.func52, Try.ntmps52
  go_wp2_with fail
  refine (Logs.logs_calls _).mono ?_
  rintro e w1 ⟨rfl, hB⟩
  have hk0 : Blk.Is ((w1.alloc (.cells zlog 89)).alloc (.cells zexp 90)) w1.heap.size zlog 89 := (Blk.Is.new w1 zlog _).alloc _
  have hk1 : Blk.Is ((w1.alloc (.cells zlog 89)).alloc (.cells zexp 90)) (w1.heap.size + 1) zexp 90 := by
    have := Blk.Is.new (w1.alloc (.cells zlog 89)) zexp 90
    rwa [World.size_alloc] at this
  have hB2 : Below w.heap.size w ((w1.alloc (.cells zlog 89)).alloc (.cells zexp 90)) := (hB.alloc hB.size _).alloc (by have := hB.size; simp; omega) _
  have sl := Blk.store_row LT hk0 (P := Try.prog) (t := 89) (by rw [LT_size]; kernel_rfl) (by rw [LT_size]; simp [zlog]) LT_one
  have g0 := hk0.setRow LT
  have g1 : Blk.Is (((w1.alloc (.cells zlog 89)).alloc (.cells zexp 90)).setRow w1.heap.size LT) (w1.heap.size + 1) zexp 90 := (setRow_other _ _ _ _ (by omega)).trans hk1
  have hB3 := Blk.below_setRow hB2 (b := w1.heap.size) hB.size LT
  obtain ⟨w2, hw2⟩ : ∃ w2, ((w1.alloc (.cells zlog 89)).alloc (.cells zexp 90)).setRow w1.heap.size LT = w2 := ⟨_, rfl⟩
  rw [hw2] at sl g0 g1 hB3
  have se := Blk.store_row ET g1 (P := Try.prog) (t := 90) (by rw [ET_size]; kernel_rfl) (by rw [ET_size]; simp [zexp]) ET_one
  have f1 := g1.setRow ET
  have f0 : Blk.Is (w2.setRow (w1.heap.size + 1) ET) w1.heap.size LT 89 := (setRow_other _ _ _ _ (by omega)).trans g0
  have hB4 := Blk.below_setRow hB3 (b := w1.heap.size + 1) (by have := hB.size; omega) ET
  obtain ⟨w3, hw3⟩ : ∃ w3, w2.setRow (w1.heap.size + 1) ET = w3 := ⟨_, rfl⟩
  rw [hw3] at se f0 f1 hB4
  clear hw2 hw3 hk0 hk1 g0 g1 hB2 hB3
  have e0 := (f0.cell a.toNat).trans c0
  have hm1 : -254 ≤ n.tmod 255 := by have := Int.tmod_lt_of_pos (-n) (b := 255) (by omega); rw [Int.neg_tmod] at this; omega
  have hm2 : n.tmod 255 ≤ 254 := by have := Int.tmod_lt_of_pos n (b := 255) (by omega); omega
  have hp1 : -64516 ≤ logI a * n.tmod 255 := by
    have := Int.mul_le_mul_of_nonneg_left hm1 c1
    omega
  have hp2 : logI a * n.tmod 255 ≤ 64516 := by
    have := Int.mul_le_mul_of_nonneg_left hm2 c1
    omega
  have hq1 : -254 ≤ (logI a * n.tmod 255).tmod 255 := by have := Int.tmod_lt_of_pos (-(logI a * n.tmod 255)) (b := 255) (by omega); rw [Int.neg_tmod] at this; omega
  have hq2 : (logI a * n.tmod 255).tmod 255 ≤ 254 := by have := Int.tmod_lt_of_pos (logI a * n.tmod 255) (b := 255) (by omega); omega
  obtain ⟨d0, d1, d2⟩ := ET_cell ((logI a * n.tmod 255).tmod 255 % 255) (by omega) (by omega)
  have e1 := (f1.cell _).trans d0
  have hr1 : 0 ≤ (logI a * n.tmod 255).tmod 255 % 255 := by omega
  have hr2 : (logI a * n.tmod 255).tmod 255 % 255 < 255 := by omega
  clear d0 c0 f0 f1
  go_wp2
  go_ret
  exact ⟨rfl, hB4⟩

/-- Of every byte and every int. -/
theorem pow_any (a n : Int) (h0 : 0 ≤ a) (h1 : a < 256) (hn1 : -9223372036854775808 ≤ n) (hn2 : n ≤ 9223372036854775807) (w : World) :
    Calls Try.prog 52 #[.int .u8 a, .int .i64 n] w fun e w' => e = .returned (.int .u8 (pow a n)) ∧ Below w.heap.size w w' := by
  by_cases hn : n = 0
  · subst hn
    exact (pow_zero a w).mono (by rintro e w' ⟨rfl, rfl⟩; exact ⟨by simp [pow], Below.refl _ _⟩)
  · by_cases ha : a = 0
    · subst ha
      exact (pow_nought n hn w).mono (by rintro e w' ⟨rfl, rfl⟩; exact ⟨by simp [pow, hn], Below.refl _ _⟩)
    · exact (pow_else a n h0 h1 ha hn hn1 hn2 w).mono (by rintro e w' ⟨rfl, hB⟩; exact ⟨by simp only [pow, if_neg hn, if_neg ha], hB⟩)
end Go.Proofs.Ytbebmbcjddibaaa.Pow
