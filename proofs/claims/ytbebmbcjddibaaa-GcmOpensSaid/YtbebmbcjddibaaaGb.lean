/- What is said here: what Block makes of a block; the small functions; the two tables; bytes laid into the middle of a block. -/
import Derived.Test.YtbebmbcjddibaaaPoly
import Derived.Test.YtbebmbcjddibaaaPAx
import Derived.Test.YtbebmbcjddibaaaGa
namespace Go.Proofs.Ytbebmbcjddibaaa.AesF
set_option linter.unusedVariables false
set_option linter.unusedSimpArgs false
open Go.RowKit Go.Proofs.Ytbebmbcjddibaaa.PA Go.Proofs.YtbebmbcjddibaaaW.PrintWords Go.Proofs.YtbebmbcjddibaaaW.PrintLast Go.Proofs.YtbebmbcjddibaaaW.PrintMore Go.Proofs.Ytbebmbcjddibaaa.Gf Go.Proofs.Ytbebmbcjddibaaa.Gfi Go.Proofs.Ytbebmbcjddibaaa.Gfr
theorem pow_fp (a : B) {n : Int} (h0 : -9223372036854775808 ≤ n) (h1 : n ≤ 9223372036854775807) : field_Pow.f (ofB a) n = some (ofB (powB a n)) := by
  have := ofB_range a
  unfold field_Pow.f
  rw [if_pos ⟨this.1, this.2, h0, h1⟩, tab_pow]
theorem inv_fp (a : B) : field_Inv.f (ofB a) = some (ofB (inv a)) := by
  unfold field_Inv.f
  rw [pow_fp a (by omega) (by omega), powB_inv a 254 (by omega)]
  rfl
/-- A byte as sub sees it: behind its inverse. -/
def rot (y : B) (n : Nat) : B := (y <<< n) ||| (y >>> (8 - n))
def sbox (y : B) : B := ((((y ^^^ rot y 1) ^^^ rot y 2) ^^^ rot y 3) ^^^ rot y 4) ^^^ 0x63#8
def sb (x : B) : B := sbox (inv x)
theorem turn_f1 (y : B) : aes_turn.f (ofB y) 1 = some (ofB (rot y 1)) := all_bits (P := fun y => aes_turn.f (ofB y) 1 = some (ofB (rot y 1))) (by decide +kernel) y
theorem turn_f2 (y : B) : aes_turn.f (ofB y) 2 = some (ofB (rot y 2)) := all_bits (P := fun y => aes_turn.f (ofB y) 2 = some (ofB (rot y 2))) (by decide +kernel) y
theorem turn_f3 (y : B) : aes_turn.f (ofB y) 3 = some (ofB (rot y 3)) := all_bits (P := fun y => aes_turn.f (ofB y) 3 = some (ofB (rot y 3))) (by decide +kernel) y
theorem turn_f4 (y : B) : aes_turn.f (ofB y) 4 = some (ofB (rot y 4)) := all_bits (P := fun y => aes_turn.f (ofB y) 4 = some (ofB (rot y 4))) (by decide +kernel) y
theorem twice_f (a : B) : field_Mul.f 20 (ofB a) 2 = some (ofB (xt a)) := all_bits (P := fun a => field_Mul.f 20 (ofB a) 2 = some (ofB (xt a))) (by decide +kernel) a
def fac : Nat → B
  | 0 => 1#8
  | n + 1 => xt (fac n)
theorem fac_f (n : Nat) (h : n < 7) : ciboriumref03_Pow.f 400 2 (n : Int) = some (ofB (fac n)) := by
  have : ∀ i : Fin 7, ciboriumref03_Pow.f 400 2 (i.1 : Int) = some (ofB (fac i.1)) := by decide +kernel
  exact this ⟨n, h⟩
theorem wrap_nat {n : Nat} (h : n < 2 ^ 62) : wrap64 (n : Int) = (n : Int) := by
  have h2 : n < 4611686018427387904 := h
  unfold wrap64
  omega
theorem xor_i64 {p q : Nat} (hp : p < 2 ^ 62) (hq : q < 2 ^ 62) : Go.bits .xor .i64 (p : Int) (q : Int) = ((p ^^^ q : Nat) : Int) := by
  have hx := Nat.xor_lt_two_pow hp hq
  have h : ∀ n : Nat, n < 2 ^ 62 → (BitVec.ofInt 64 (n : Int)).toNat = n := by
    intro n hn
    rw [BitVec.ofInt_natCast, BitVec.toNat_ofNat]
    omega
  unfold Go.bits
  show IntKind.i64.wrap (((BitVec.ofInt 64 (p : Int)) ^^^ (BitVec.ofInt 64 (q : Int))).toNat : Int) = _
  rw [BitVec.toNat_xor, h p hp, h q hq, i64_w]
  exact wrap_nat hx
theorem bit_of (b i : Nat) : (((b : Int) / 2 ^ i).tmod 2 = 1) ↔ b.testBit i = true := by
  rw [Nat.testBit_eq_decide_div_mod_eq, decide_eq_true_iff]
  have e : ((b : Int) / 2 ^ i) = ((b / 2 ^ i : Nat) : Int) := by simp
  rw [e]
  generalize b / 2 ^ i = c
  rw [Int.tmod_eq_emod_of_nonneg (by omega)]
  omega

theorem l0_f {a b : Nat} (ha : a < 256) (n : Nat) : ∀ (k i p : Nat), i + n = 8 → p < 2 ^ 15 → n < k →
    ciboriumref03_Mul.l0 k (a : Int) (b : Int) (p : Int) (i : Int) = ciboriumref03_Mul.l1 (k - n - 1) ((cl a b n i p : Nat) : Int) 14 := by
  induction n with
  | zero =>
    intro k i p hi hp hk
    obtain ⟨k, rfl⟩ : ∃ n, k = n + 1 := ⟨k - 1, by omega⟩
    simp only [ciboriumref03_Mul.l0, cl]
    rw [if_neg (by omega)]
    rfl
  | succ n ih =>
    intro k i p hi hp hk
    obtain ⟨k, rfl⟩ : ∃ n, k = n + 1 := ⟨k - 1, by omega⟩
    simp only [ciboriumref03_Mul.l0]
    rw [if_pos (by omega), if_pos (by omega)]
    have e1 : shr .u8 (b : Int) (i : Int) = (b : Int) / 2 ^ i := by
      have := shr_small (k := .u8) (x := (b : Int)) (y := (i : Int)) rfl (by show (i : Int) ≤ 8; omega)
      rw [← this, Int.toNat_natCast]
    have e2 : wrap64 ((i : Int) + 1) = ((i + 1 : Nat) : Int) := by unfold wrap64; omega
    have hpow : (2 : Nat) ^ i ≤ 2 ^ 7 := Nat.pow_le_pow_right (by omega) (by omega)
    have hsh : a * 2 ^ i ≤ 255 * 2 ^ 7 := Nat.mul_le_mul (by omega) hpow
    have e3 : shl .i64 (wrap64 (a : Int)) (i : Int) = ((a <<< i : Nat) : Int) := by
      have h1 := shl_small (k := .i64) (x := wrap64 (a : Int)) (y := (i : Int)) rfl (by show (i : Int) ≤ 64; omega)
      have h2 : (a : Int) * 2 ^ i = ((a * 2 ^ i : Nat) : Int) := by simp
      rw [← h1, Int.toNat_natCast, wrap_nat (Nat.lt_of_lt_of_le ha (by decide)), h2, i64_w, Nat.shiftLeft_eq]
      exact wrap_nat (Nat.lt_of_le_of_lt hsh (by decide))
    have hlt : a <<< i < 2 ^ 15 := by rw [Nat.shiftLeft_eq]; exact Nat.lt_of_le_of_lt hsh (by decide)
    rw [e1, e2, e3, cl, show k + 1 - (n + 1) - 1 = k - n - 1 by omega]
    by_cases hb : b.testBit i = true
    · rw [if_pos ((bit_of b i).2 hb), xor_i64 (Nat.lt_of_lt_of_le hp (by decide)) (Nat.lt_of_lt_of_le hlt (by decide)), if_pos hb]
      exact ih k (i + 1) _ (by omega) (Nat.xor_lt_two_pow hp hlt) (by omega)
    · rw [if_neg (fun h => hb ((bit_of b i).1 h)), if_neg hb, Nat.xor_zero]
      exact ih k (i + 1) _ (by omega) hp (by omega)

theorem l1_f (n : Nat) : ∀ (k p : Nat), n ≤ 7 → p < 2 ^ 15 → n < k → ciboriumref03_Mul.l1 k (p : Int) ((n : Int) + 7) = some (((Gfr.rd n p : Nat) : Int) % 256) := by
  induction n with
  | zero =>
    intro k p hn hp hk
    obtain ⟨k, rfl⟩ : ∃ n, k = n + 1 := ⟨k - 1, by omega⟩
    simp only [ciboriumref03_Mul.l1, Gfr.rd]
    rw [if_neg (by omega)]
  | succ n ih =>
    intro k p hn hp hk
    obtain ⟨k, rfl⟩ : ∃ n, k = n + 1 := ⟨k - 1, by omega⟩
    simp only [ciboriumref03_Mul.l1]
    have e0 : ((n + 1 : Nat) : Int) + 7 = ((n + 8 : Nat) : Int) := by omega
    rw [e0, if_pos (by omega), if_pos (by omega)]
    have e1 : shr .i64 (p : Int) ((n + 8 : Nat) : Int) = (p : Int) / 2 ^ (n + 8) := by
      have := shr_small (k := .i64) (x := (p : Int)) (y := ((n + 8 : Nat) : Int)) rfl (by show ((n + 8 : Nat) : Int) ≤ 64; omega)
      rw [← this, Int.toNat_natCast]
    have e2 : wrap64 (((n + 8 : Nat) : Int) - 1) = (n : Int) + 7 := by unfold wrap64; omega
    have e3 : wrap64 (((n + 8 : Nat) : Int) - 8) = (n : Int) := by unfold wrap64; omega
    have hpow : (2 : Nat) ^ n ≤ 2 ^ 6 := Nat.pow_le_pow_right (by omega) (by omega)
    have e4 : shl .i64 283 (n : Int) = ((0x11b <<< n : Nat) : Int) := by
      have h1 := shl_small (k := .i64) (x := 283) (y := (n : Int)) rfl (by show (n : Int) ≤ 64; omega)
      have h2 : (283 : Int) * 2 ^ n = ((283 * 2 ^ n : Nat) : Int) := by simp
      rw [← h1, Int.toNat_natCast, h2, i64_w, Nat.shiftLeft_eq]
      exact wrap_nat (Nat.lt_of_le_of_lt (Nat.mul_le_mul_left 283 hpow) (by decide))
    have hlt : 0x11b <<< n < 2 ^ 15 := by rw [Nat.shiftLeft_eq]; exact Nat.lt_of_le_of_lt (Nat.mul_le_mul_left 283 hpow) (by decide)
    rw [e1, e2, e3, e4, Gfr.rd]
    by_cases hb : p.testBit (n + 8) = true
    · rw [if_pos ((bit_of p (n + 8)).2 hb), if_pos (by omega), xor_i64 (Nat.lt_of_lt_of_le hp (by decide)) (Nat.lt_of_lt_of_le hlt (by decide)), if_pos hb]
      exact ih k _ (by omega) (Nat.xor_lt_two_pow hp hlt) (by omega)
    · rw [if_neg (fun h => hb ((bit_of p (n + 8)).1 h)), if_neg hb, Nat.xor_zero]
      exact ih k _ (by omega) hp (by omega)

/-- The reference's product is the field's. -/
theorem mul_f {k : Nat} (hk : 20 < k) (a b : B) : ciboriumref03_Mul.f k (ofB a) (ofB b) = some (ofB (mul a b)) := by
  unfold ciboriumref03_Mul.f
  have h := l0_f (a := a.toNat) (b := b.toNat) a.isLt 8 k 0 0 (by omega) (by decide) (by omega)
  have e : ciboriumref03_Mul.l0 k (ofB a) (ofB b) 0 0 = ciboriumref03_Mul.l0 k (a.toNat : Int) (b.toNat : Int) ((0 : Nat) : Int) ((0 : Nat) : Int) := rfl
  have hc := cl_lt (a := a.toNat) (b := b.toNat) a.isLt 8 0 0 (by omega) (by decide)
  have h1 := l1_f 7 (k - 8 - 1) _ (by omega) hc (by omega)
  rw [e, h, show (14 : Int) = ((7 : Nat) : Int) + 7 by omega, h1, refN_mul]

theorem inv_l0 (a : B) (n : Nat) : ∀ (k i : Nat), i + n = 256 → (∀ j : Nat, j < i → mul a (BitVec.ofNat 8 j) ≠ 1#8) → n + 20 < k → ciboriumref03_Inv.l0 k (ofB a) (i : Int) = some (ofB (inv a)) := by
  induction n with
  | zero =>
    intro k i hi hj hk
    obtain ⟨k, rfl⟩ : ∃ n, k = n + 1 := ⟨k - 1, by omega⟩
    simp only [ciboriumref03_Inv.l0]
    rw [if_neg (by omega)]
    by_cases ha : a = 0#8
    · subst ha; rfl
    · exact absurd (by rw [BitVec.ofNat_toNat, BitVec.setWidth_eq, mul_inv a ha]) (hj (inv a).toNat (by have := (inv a).isLt; omega))
  | succ n ih =>
    intro k i hi hj hk
    obtain ⟨k, rfl⟩ : ∃ n, k = n + 1 := ⟨k - 1, by omega⟩
    simp only [ciboriumref03_Inv.l0]
    have e1 : (i : Int) % 256 = ofB (BitVec.ofNat 8 i) := by unfold ofB; rw [BitVec.toNat_ofNat]; omega
    have e2 : wrap64 ((i : Int) + 1) = ((i + 1 : Nat) : Int) := by unfold wrap64; omega
    rw [if_pos (by omega), e1, mul_f (by omega), Option.bind_some, e2]
    by_cases h : mul a (BitVec.ofNat 8 i) = 1#8
    · rw [h, if_pos ofB_one, inv_unique h]
    · rw [if_neg (fun hh => h (ofB_inj (hh.trans ofB_one.symm)))]
      refine ih k (i + 1) (by omega) (fun j hj' => ?_) (by omega)
      rcases Nat.lt_or_ge j i with h2 | h2
      · exact hj j h2
      · obtain rfl : j = i := by omega
        exact h
theorem inv_f {k : Nat} (hk : 300 < k) (a : B) : ciboriumref03_Inv.f k (ofB a) = some (ofB (inv a)) :=
  inv_l0 a 256 k 0 (by omega) (fun j hj => by omega) (by omega)
theorem sub_l0 (y : B) : ciboriumref05_Sub.l0 400 (ofB y) 0 0 = some (ofB (sbox y)) := all_bits (P := fun y => ciboriumref05_Sub.l0 400 (ofB y) 0 0 = some (ofB (sbox y))) (by decide +kernel) y
theorem sub_f (x : B) : ciboriumref05_Sub.f 400 (ofB x) = some (ofB (sb x)) := by
  unfold ciboriumref05_Sub.f
  rw [inv_f (by omega), Option.bind_some, sub_l0]
  rfl
theorem inv_calls (x : B) (w : World) : Calls Try.prog 42 #[.int .u8 (ofB x)] w fun e w' => e = .returned (.int .u8 (ofB (inv x))) ∧ Below w.heap.size w w' :=
  PA.field_Inv.calls _ _ w (inv_fp x)
theorem turn_calls1 (y : B) (w : World) : Calls Try.prog 43 #[.int .u8 (ofB y), .int .i64 1] w fun e w' => e = .returned (.int .u8 (ofB (rot y 1))) ∧ Drawn0 w w' := PA.aes_turn.calls _ _ _ w (turn_f1 y)
theorem turn_calls2 (y : B) (w : World) : Calls Try.prog 43 #[.int .u8 (ofB y), .int .i64 2] w fun e w' => e = .returned (.int .u8 (ofB (rot y 2))) ∧ Drawn0 w w' := PA.aes_turn.calls _ _ _ w (turn_f2 y)
theorem turn_calls3 (y : B) (w : World) : Calls Try.prog 43 #[.int .u8 (ofB y), .int .i64 3] w fun e w' => e = .returned (.int .u8 (ofB (rot y 3))) ∧ Drawn0 w w' := PA.aes_turn.calls _ _ _ w (turn_f3 y)
theorem turn_calls4 (y : B) (w : World) : Calls Try.prog 43 #[.int .u8 (ofB y), .int .i64 4] w fun e w' => e = .returned (.int .u8 (ofB (rot y 4))) ∧ Drawn0 w w' := PA.aes_turn.calls _ _ _ w (turn_f4 y)
theorem twice_calls (a : B) (w : World) : Calls Try.prog 33 #[.int .u8 (ofB a), .int .u8 2] w fun e w' => e = .returned (.int .u8 (ofB (xt a))) ∧ Drawn0 w w' := PA.field_Mul.calls 20 _ _ _ w (twice_f a)
theorem fac_calls (n : Nat) (h : n < 7) (w : World) : Calls Try.prog 29 #[.int .u8 2, .int .i64 (n : Int)] w fun e w' => e = .returned (.int .u8 (ofB (fac n))) ∧ Drawn0 w w' := PA.ciboriumref03_Pow.calls 400 _ _ _ w (fac_f n h)
theorem times_calls (a b : B) (w : World) : Calls Try.prog 41 #[.int .u8 (ofB a), .int .u8 (ofB b)] w fun e w' => e = .returned (.int .u8 (ofB (mul a b))) ∧ Drawn0 w w' := PA.ciboriumref03_Mul.calls 400 _ _ _ w (mul_f (by omega) a b)
theorem sub_calls (x : B) (w : World) : Calls Try.prog 28 #[.int .u8 (ofB x)] w fun e w' => e = .returned (.int .u8 (ofB (sb x))) ∧ Drawn0 w w' := PA.ciboriumref05_Sub.calls 400 _ _ w (sub_f x)
end Go.Proofs.Ytbebmbcjddibaaa.AesF
namespace Go.Proofs.Ytbebmbcjddibaaa.Aes
set_option linter.unusedVariables false
set_option linter.unusedSimpArgs false
open Go.RowKit Go.Proofs.YtbebmbcjddibaaaW.PrintWords Go.Proofs.YtbebmbcjddibaaaW.PrintLast Go.Proofs.YtbebmbcjddibaaaW.PrintMore
open Gf Gfi Poly
/-- Building, under a name that the walk does not lay open. -/
def bd (t : TypeId) (ps : Array (Nat × Value)) : Sem Value := Instr.build t ps
theorem bd49 (ps : Array (Nat × Value)) : Instr.build 82 ps = bd 82 ps := rfl
attribute [local go_sem ↓] ld23 st23 bd49
set_option maxRecDepth 100000 in
theorem bd_st (b : Nat → B) (kb : Nat) (W : World) : (bd 82 #[(0, .agg (cB 16 b)), (1, .pointer (some ⟨kb, 0, none⟩))]).run Try.prog W = .ok (.agg (stA b kb 0)) W := by kernel_rfl

theorem ld_b (w : World) (K b : Nat → B) : (Blk.ld 37 (.pointer (some ⟨w.heap.size + 1, 0, none⟩))).run Try.prog ((((w.alloc (Obj.cells (cB 752 K) 53)).alloc (Obj.cells (cB 16 b) 37)).alloc (Obj.cells #[Value.int IntKind.u8 0, Value.int IntKind.u8 0, Value.int IntKind.u8 0, Value.int IntKind.u8 0, Value.int IntKind.u8 0, Value.int IntKind.u8 0, Value.int IntKind.u8 0, Value.int IntKind.u8 0, Value.int IntKind.u8 0, Value.int IntKind.u8 0, Value.int IntKind.u8 0, Value.int IntKind.u8 0, Value.int IntKind.u8 0, Value.int IntKind.u8 0, Value.int IntKind.u8 0, Value.int IntKind.u8 0] 37))) = .ok (.agg (cB 16 b)) ((((w.alloc (Obj.cells (cB 752 K) 53)).alloc (Obj.cells (cB 16 b) 37)).alloc (Obj.cells #[Value.int IntKind.u8 0, Value.int IntKind.u8 0, Value.int IntKind.u8 0, Value.int IntKind.u8 0, Value.int IntKind.u8 0, Value.int IntKind.u8 0, Value.int IntKind.u8 0, Value.int IntKind.u8 0, Value.int IntKind.u8 0, Value.int IntKind.u8 0, Value.int IntKind.u8 0, Value.int IntKind.u8 0, Value.int IntKind.u8 0, Value.int IntKind.u8 0, Value.int IntKind.u8 0, Value.int IntKind.u8 0] 37))) := by
  have h := (Blk.Is.new (w.alloc (.cells (cB 752 K) 53)) (cB 16 b) 37).alloc (.cells #[Value.int IntKind.u8 0, Value.int IntKind.u8 0, Value.int IntKind.u8 0, Value.int IntKind.u8 0, Value.int IntKind.u8 0, Value.int IntKind.u8 0, Value.int IntKind.u8 0, Value.int IntKind.u8 0, Value.int IntKind.u8 0, Value.int IntKind.u8 0, Value.int IntKind.u8 0, Value.int IntKind.u8 0, Value.int IntKind.u8 0, Value.int IntKind.u8 0, Value.int IntKind.u8 0, Value.int IntKind.u8 0] 37)
  have e : (w.alloc (.cells (cB 752 K) 53)).heap.size = w.heap.size + 1 := by simp
  rw [e] at h
  exact ld_mid h 37 0 16 b _ (fun j hj => by rw [Nat.zero_add]; exact cB_get 16 b j hj) Try.underlying37 rfl (by kernel_rfl)
theorem at_start (w : World) (K b : Nat → B) (r : Nat) : Hid (St (((((w.alloc (Obj.cells (cB 752 K) 53)).alloc (Obj.cells (cB 16 b) 37)).alloc (Obj.cells #[Value.int IntKind.u8 0, Value.int IntKind.u8 0, Value.int IntKind.u8 0, Value.int IntKind.u8 0, Value.int IntKind.u8 0, Value.int IntKind.u8 0, Value.int IntKind.u8 0, Value.int IntKind.u8 0, Value.int IntKind.u8 0, Value.int IntKind.u8 0, Value.int IntKind.u8 0, Value.int IntKind.u8 0, Value.int IntKind.u8 0, Value.int IntKind.u8 0, Value.int IntKind.u8 0, Value.int IntKind.u8 0] 37))).alloc (.cells (stA b w.heap.size r) 82)) (w.heap.size + 1 + 1 + 1) w.heap.size K b r)
    ∧ Hid (Below w.heap.size w (((((w.alloc (Obj.cells (cB 752 K) 53)).alloc (Obj.cells (cB 16 b) 37)).alloc (Obj.cells #[Value.int IntKind.u8 0, Value.int IntKind.u8 0, Value.int IntKind.u8 0, Value.int IntKind.u8 0, Value.int IntKind.u8 0, Value.int IntKind.u8 0, Value.int IntKind.u8 0, Value.int IntKind.u8 0, Value.int IntKind.u8 0, Value.int IntKind.u8 0, Value.int IntKind.u8 0, Value.int IntKind.u8 0, Value.int IntKind.u8 0, Value.int IntKind.u8 0, Value.int IntKind.u8 0, Value.int IntKind.u8 0] 37))).alloc (.cells (stA b w.heap.size r) 82)))
    ∧ Hid (Blk.Is (((((w.alloc (Obj.cells (cB 752 K) 53)).alloc (Obj.cells (cB 16 b) 37)).alloc (Obj.cells #[Value.int IntKind.u8 0, Value.int IntKind.u8 0, Value.int IntKind.u8 0, Value.int IntKind.u8 0, Value.int IntKind.u8 0, Value.int IntKind.u8 0, Value.int IntKind.u8 0, Value.int IntKind.u8 0, Value.int IntKind.u8 0, Value.int IntKind.u8 0, Value.int IntKind.u8 0, Value.int IntKind.u8 0, Value.int IntKind.u8 0, Value.int IntKind.u8 0, Value.int IntKind.u8 0, Value.int IntKind.u8 0] 37))).alloc (.cells (stA b w.heap.size r) 82)) (w.heap.size + 1 + 1) #[Value.int IntKind.u8 0, Value.int IntKind.u8 0, Value.int IntKind.u8 0, Value.int IntKind.u8 0, Value.int IntKind.u8 0, Value.int IntKind.u8 0, Value.int IntKind.u8 0, Value.int IntKind.u8 0, Value.int IntKind.u8 0, Value.int IntKind.u8 0, Value.int IntKind.u8 0, Value.int IntKind.u8 0, Value.int IntKind.u8 0, Value.int IntKind.u8 0, Value.int IntKind.u8 0, Value.int IntKind.u8 0] 37) := by
  have e1 : (w.alloc (.cells (cB 752 K) 53)).heap.size = w.heap.size + 1 := by simp
  have e2 : ((w.alloc (.cells (cB 752 K) 53)).alloc (.cells (cB 16 b) 37)).heap.size = w.heap.size + 1 + 1 := by simp
  have e3 : ((((w.alloc (Obj.cells (cB 752 K) 53)).alloc (Obj.cells (cB 16 b) 37)).alloc (Obj.cells #[Value.int IntKind.u8 0, Value.int IntKind.u8 0, Value.int IntKind.u8 0, Value.int IntKind.u8 0, Value.int IntKind.u8 0, Value.int IntKind.u8 0, Value.int IntKind.u8 0, Value.int IntKind.u8 0, Value.int IntKind.u8 0, Value.int IntKind.u8 0, Value.int IntKind.u8 0, Value.int IntKind.u8 0, Value.int IntKind.u8 0, Value.int IntKind.u8 0, Value.int IntKind.u8 0, Value.int IntKind.u8 0] 37))).heap.size = w.heap.size + 1 + 1 + 1 := by simp
  have h0 := Blk.Is.new w (cB 752 K) 53
  have h2 := (Blk.Is.new ((w.alloc (.cells (cB 752 K) 53)).alloc (.cells (cB 16 b) 37)) #[Value.int IntKind.u8 0, Value.int IntKind.u8 0, Value.int IntKind.u8 0, Value.int IntKind.u8 0, Value.int IntKind.u8 0, Value.int IntKind.u8 0, Value.int IntKind.u8 0, Value.int IntKind.u8 0, Value.int IntKind.u8 0, Value.int IntKind.u8 0, Value.int IntKind.u8 0, Value.int IntKind.u8 0, Value.int IntKind.u8 0, Value.int IntKind.u8 0, Value.int IntKind.u8 0, Value.int IntKind.u8 0] 37).alloc (.cells (stA b w.heap.size r) 82)
  have h3 := Blk.Is.new ((((w.alloc (Obj.cells (cB 752 K) 53)).alloc (Obj.cells (cB 16 b) 37)).alloc (Obj.cells #[Value.int IntKind.u8 0, Value.int IntKind.u8 0, Value.int IntKind.u8 0, Value.int IntKind.u8 0, Value.int IntKind.u8 0, Value.int IntKind.u8 0, Value.int IntKind.u8 0, Value.int IntKind.u8 0, Value.int IntKind.u8 0, Value.int IntKind.u8 0, Value.int IntKind.u8 0, Value.int IntKind.u8 0, Value.int IntKind.u8 0, Value.int IntKind.u8 0, Value.int IntKind.u8 0, Value.int IntKind.u8 0] 37))) (stA b w.heap.size r) 82
  rw [e2] at h2
  rw [e3] at h3
  refine ⟨⟨h3, ((h0.alloc _).alloc _).alloc _, by omega⟩, ?_, h2⟩
  exact ((((Below.refl _ w).alloc (Nat.le_refl _) _).alloc (by omega) _).alloc (by omega) _).alloc (by omega) _

/-- One round, and rounds. -/
def roundS (K : Nat → B) (r : Nat) (st : Nat → B) : Nat → B := addS K r (mixR r (shiftS (swapS K st)))
def bl (K b : Nat → B) : Nat → Nat → B
  | 0 => addS K 0 b
  | r + 1 => roundS K (r + 1) (bl K b r)
def stepF (K : Nat → B) (r i : Nat) (st : Nat → B) : Nat → B :=
  match i with
  | 0 => st
  | 1 => swapS K st
  | 2 => shiftS (swapS K st)
  | 3 => mixR r (shiftS (swapS K st))
  | _ => roundS K r st
def rd (W : World) (s : Nat) : Nat := match W.cell? ⟨s, 17, none⟩ with
  | some v => (intOf v).toNat
  | none => 0
theorem St.rd {W : World} {s kb r : Nat} {K st : Nat → B} (h : St W s kb K st r) : rd W s = r := by
  unfold Aes.rd
  rw [h.round]
  simp [intOf]
theorem St.setRound {W : World} {s kb r : Nat} {K st : Nat → B} (h : St W s kb K st r) (r' : Nat) : St (W.setCell ⟨s, 17, none⟩ (.int .i64 (r' : Int))) s kb K st r' :=
  ⟨by rw [← stA_setRound st kb r r']; exact h.b.set 17 _, h.k.other (fun e => by have := h.lt; simp at e; omega) _, h.lt⟩
set_option maxRecDepth 100000 in
set_option maxHeartbeats 2000000 in
theorem block_calls (K b : Nat → B) (w : World) :
    Calls Try.prog 35 #[.agg (cB 752 K), .agg (cB 16 b)] w fun e w' => e = .returned (.agg (cB 16 (bl K b 14))) ∧ Below w.heap.size w w' := by
  have hl := ld_b w K b
  have hb := bd_st b w.heap.size
  obtain ⟨HS0, HB0, HZ⟩ := at_start w K b 0
  go_enter Try.func35, Try.ntmps35
  go_wp2_with fail
  clear hl hb
  generalize ((((w.alloc (Obj.cells (cB 752 K) 53)).alloc (Obj.cells (cB 16 b) 37)).alloc (Obj.cells #[Value.int IntKind.u8 0, Value.int IntKind.u8 0, Value.int IntKind.u8 0, Value.int IntKind.u8 0, Value.int IntKind.u8 0, Value.int IntKind.u8 0, Value.int IntKind.u8 0, Value.int IntKind.u8 0, Value.int IntKind.u8 0, Value.int IntKind.u8 0, Value.int IntKind.u8 0, Value.int IntKind.u8 0, Value.int IntKind.u8 0, Value.int IntKind.u8 0, Value.int IntKind.u8 0, Value.int IntKind.u8 0] 37))).alloc (.cells (stA b w.heap.size 0) 82) = w0 at *
  obtain ⟨s, hs⟩ : ∃ s, s = w.heap.size + 1 + 1 + 1 := ⟨_, rfl⟩
  obtain ⟨z, hz⟩ : ∃ z, z = w.heap.size + 1 + 1 := ⟨_, rfl⟩
  have HLT := Lib.hid (show z < s ∧ w.heap.size ≤ z ∧ w.heap.size ≤ s by omega)
  rw [← hs] at HS0 ⊢
  rw [← hz] at HZ ⊢
  generalize hkb : w.heap.size = kb at *
  have HKB := Lib.hid hkb
  clear hkb
  clear hs hz
  refine (add_calls s kb 0 K b _ HS0.out (by omega)).mono ?_
  rintro e w1 ⟨rfl, hS, hB⟩
  have HS1 := Lib.hid hS
  have HZ1 := Lib.hid (HZ.out.below hB.below HLT.out.1)
  have HB1 := Lib.hid (HB0.out.trans (hB.below.mono HLT.out.2.2))
  clear hS hB HS0 HZ HB0
  have x17 := HS1.out.round
  have hf := HS1.out.free 17
  go_wp2_with fail
  clear x17 hf
  have HS2 := Lib.hid (HS1.out.setRound 1)
  have HZ2 := Lib.hid (HZ1.out.other (a := ⟨s, 17, none⟩) (fun e => by have := HLT.out.1; simp at e; omega) (.int .i64 1))
  have HB2 := Lib.hid (HB1.out.setCell (p := ⟨s, 17, none⟩) HLT.out.2.2 (.int .i64 1))
  clear HS1 HZ1 HB1
  generalize w1.setCell ⟨s, 17, none⟩ (.int .i64 1) = w2 at *
  go_loopw [7, 16, 17, 18, 19, 20, 21, 22, 23, 24, 25, 26, 27, 28, 29, 30, 31, 32, 33, 34, 35, 36, 37] (fun v7 v16 v17 v18 v19 v20 v21 v22 v23 v24 v25 v26 v27 v28 v29 v30 v31 v32 v33 v34 v35 v36 v37 wr => ∃ (q : Nat), q ≤ 14 ∧ Hid (St wr s kb K (bl K b q) (q + 1)) ∧ Hid (Blk.Is wr z #[.int .u8 0, .int .u8 0, .int .u8 0, .int .u8 0, .int .u8 0, .int .u8 0, .int .u8 0, .int .u8 0, .int .u8 0, .int .u8 0, .int .u8 0, .int .u8 0, .int .u8 0, .int .u8 0, .int .u8 0, .int .u8 0] 37) ∧ Hid (Below kb w wr)) (fun _ _ _ _ _ _ _ _ _ _ _ _ _ _ _ _ _ _ _ _ _ _ _ wr => 15 - rd wr s)
  case atStart => exact ⟨0, by omega, HS2, HZ2, HB2⟩
  case round =>
    clear HS2 HZ2 HB2
    obtain ⟨q, hq, HS, HZ, HB⟩ := hrel
    have x17 := HS.out.round
    have hf := HS.out.free 17
    obtain ⟨wo, rfl⟩ : ∃ wo, wo = wr := ⟨_, rfl⟩
    by_cases hlt : q < 14
    · go_wp2_with fail
      clear hlt x17 hf
      have HQ := Lib.hid (show q + 1 ≤ 14 by omega)
      have HG := Lib.hid (Blk.Is.new wo #[.func (.func 45) #[] #[], .func (.func 46) #[] #[], .func (.func 47) #[] #[], .func (.func 44) #[] #[]] 83)
      have HS1 := Lib.hid (HS.out.alloc (.cells #[.func (.func 45) #[] #[], .func (.func 46) #[] #[], .func (.func 47) #[] #[], .func (.func 44) #[] #[]] 83))
      have HZ1 := Lib.hid (HZ.out.alloc (.cells #[.func (.func 45) #[] #[], .func (.func 46) #[] #[], .func (.func 47) #[] #[], .func (.func 44) #[] #[]] 83))
      have HB1 := Lib.hid (HB.out.alloc (by have := HS.out.b.lt; have := HS.out.lt; omega) (.cells #[.func (.func 45) #[] #[], .func (.func 46) #[] #[], .func (.func 47) #[] #[], .func (.func 44) #[] #[]] 83))
      have HN := Lib.hid (show wo.heap.size ≠ s from fun e => by have := HS.out.b.lt; omega)
      have HRD := Lib.hid HS.out.rd
      generalize wo.alloc (.cells #[.func (.func 45) #[] #[], .func (.func 46) #[] #[], .func (.func 47) #[] #[], .func (.func 44) #[] #[]] 83) = wi at *
      generalize wo.heap.size = g at *
      clear HS HZ HB
      generalize decide ((q : Int) + 1 ≤ 14) = d20 at *
      generalize hst : bl K b q = st at *
      have HST := Lib.hid hst
      clear hst
      go_loopw [7, 30, 31, 32, 33, 34, 35, 36, 37] (fun v7 v30 v31 v32 v33 v34 v35 v36 v37 wl => ∃ (i : Nat), i ≤ 4 ∧ v30 = .int .i64 (i : Int) ∧ Hid (St wl s kb K (stepF K (q + 1) i st) (q + 1)) ∧ Hid (Blk.Is wl g #[.func (.func 45) #[] #[], .func (.func 46) #[] #[], .func (.func 47) #[] #[], .func (.func 44) #[] #[]] 83) ∧ Hid (Blk.Is wl z #[.int .u8 0, .int .u8 0, .int .u8 0, .int .u8 0, .int .u8 0, .int .u8 0, .int .u8 0, .int .u8 0, .int .u8 0, .int .u8 0, .int .u8 0, .int .u8 0, .int .u8 0, .int .u8 0, .int .u8 0, .int .u8 0] 37) ∧ Hid (Below kb w wl)) (fun _ v30 _ _ _ _ _ _ _ _ => 4 - (intOf v30).toNat)
      case atStart => exact ⟨0, by omega, rfl, HS1, HG, HZ1, HB1⟩
      case round =>
        clear HS1 HG HZ1 HB1
        obtain ⟨i, hi, rfl, HS, HG, HZ, HB⟩ := hrel
        by_cases hlt : i < 4
        · have hcases : i = 0 ∨ i = 1 ∨ i = 2 ∨ i = 3 := by omega
          have c0 := HG.out.cell i
          rcases hcases with rfl | rfl | rfl | rfl
          · go_wp2_with fail
            refine (swap_calls s kb _ K _ _ HS.out).mono ?_
            rintro e w3 ⟨rfl, hS, hB⟩
            have HS3 := Lib.hid hS
            have HG3 := Lib.hid (hB.is HG.out HN.out)
            have HZ3 := Lib.hid (HZ.out.below hB.below HLT.out.1)
            have HB3 := Lib.hid (HB.out.trans (hB.below.mono HLT.out.2.2))
            clear hS hB HS HG HZ HB c0
            go_wp2_with fail
            go_roundw
            case rel => exact ⟨1, by omega, by go_num, HS3.out, HG3, HZ3, HB3⟩
            case measure => simp [intOf]
          · go_wp2_with fail
            refine (shift_calls s kb _ K _ _ HS.out).mono ?_
            rintro e w3 ⟨rfl, hS, hB⟩
            have HS3 := Lib.hid hS
            have HG3 := Lib.hid (hB.is HG.out HN.out)
            have HZ3 := Lib.hid (HZ.out.below hB.below HLT.out.1)
            have HB3 := Lib.hid (HB.out.trans (hB.below.mono HLT.out.2.2))
            clear hS hB HS HG HZ HB c0
            go_wp2_with fail
            go_roundw
            case rel => exact ⟨2, by omega, by go_num, HS3.out, HG3, HZ3, HB3⟩
            case measure => simp [intOf]
          · go_wp2_with fail
            refine (mix_any s kb _ K _ _ HS.out).mono ?_
            rintro e w3 ⟨rfl, hS, hB⟩
            have HS3 := Lib.hid hS
            have HG3 := Lib.hid (hB.is HG.out HN.out)
            have HZ3 := Lib.hid (HZ.out.below hB.below HLT.out.1)
            have HB3 := Lib.hid (HB.out.trans (hB.below.mono HLT.out.2.2))
            clear hS hB HS HG HZ HB c0
            go_wp2_with fail
            go_roundw
            case rel => exact ⟨3, by omega, by go_num, HS3.out, HG3, HZ3, HB3⟩
            case measure => simp [intOf]
          · go_wp2_with fail
            refine (add_calls s kb _ K _ _ HS.out HQ.out).mono ?_
            rintro e w3 ⟨rfl, hS, hB⟩
            have HS3 := Lib.hid hS
            have HG3 := Lib.hid (hB.is HG.out HN.out)
            have HZ3 := Lib.hid (HZ.out.below hB.below HLT.out.1)
            have HB3 := Lib.hid (HB.out.trans (hB.below.mono HLT.out.2.2))
            clear hS hB HS HG HZ HB c0
            go_wp2_with fail
            go_roundw
            case rel => exact ⟨4, by omega, by go_num, HS3.out, HG3, HZ3, HB3⟩
            case measure => simp [intOf]
        · obtain rfl : i = 4 := by omega
          have x17 := HS.out.round
          have hf := HS.out.free 17
          have HS4 := Lib.hid (HS.out.setRound (q + 2))
          have HZ4 := Lib.hid (HZ.out.other (a := ⟨s, 17, none⟩) (fun e => by have := HLT.out.1; simp at e; omega) (.int .i64 ((q + 2 : Nat) : Int)))
          have HB4 := Lib.hid (HB.out.setCell (p := ⟨s, 17, none⟩) HLT.out.2.2 (.int .i64 ((q + 2 : Nat) : Int)))
          have e2 : ((q + 2 : Nat) : Int) = (q : Int) + 1 + 1 := by omega
          rw [e2] at HS4 HZ4 HB4
          clear HS HG HZ HB e2
          go_wp2_with fail
          go_roundw
          case rel => exact ⟨q + 1, by omega, by rw [← HST.out] at HS4; exact HS4, HZ4, HB4⟩
          case measure => rw [HS4.out.rd, HRD.out]; omega
    · obtain rfl : q = 14 := by omega
      have hl := HS.out.load
      have hst := Blk.store_row (P := Try.prog) (t := 37) (cB 16 (bl K b 14)) HZ.out (by rw [cB_size]; kernel_rfl) (by rw [cB_size]; rfl) (cB_one _ _)
      have HR := Lib.hid (HZ.out.setRow (cB 16 (bl K b 14)))
      have HB3 := Lib.hid (Blk.below_setRow HB.out HLT.out.2.1 (cB 16 (bl K b 14)))
      go_wp2_with fail
      refine bodyPost_ret (results_cell_row rfl _ _ z 37 (cB 16 (bl K b 14)) (0, 0) _ rfl HR.out Try.underlying37 rfl (by rw [cB_size]; kernel_rfl)) rfl ?_
      exact ⟨rfl, by rw [HKB.out]; exact HB3.out⟩
end Go.Proofs.Ytbebmbcjddibaaa.Aes
namespace Go.Proofs.Ytbebmbcjddibaaa.Aes
set_option linter.unusedVariables false
set_option linter.unusedSimpArgs false
open Go.RowKit Go.Proofs.YtbebmbcjddibaaaW.PrintWords Go.Proofs.YtbebmbcjddibaaaW.PrintLast Go.Proofs.YtbebmbcjddibaaaW.PrintMore
open Gf Gfi Poly AesF
theorem ld256 (x : Value) : Instr.loadAt 44 x = Blk.ld 44 x := rfl
theorem st256 (x v : Value) : Instr.storeAt 44 x v = Blk.st 44 x v := rfl
attribute [local go_sem ↓] ld256 st256
theorem zero256 (w : World) : (zeroValue 44).run Try.prog w = .ok (.agg (cB 256 (fun _ => 0#8))) w := by kernel_rfl
def subN : Nat → Nat → B
  | 0 => fun _ => 0#8
  | i + 1 => updB (subN i) i (sb (BitVec.ofNat 8 i))
def undoN : Nat → Nat → B
  | 0 => fun _ => 0#8
  | i + 1 => updB (undoN i) (sb (BitVec.ofNat 8 i)).toNat (BitVec.ofNat 8 i)
set_option maxRecDepth 100000 in
set_option maxHeartbeats 2000000 in
theorem boxes_calls (w : World) : Calls Try.prog 32 #[] w fun e w' => e = .returned (.tuple #[.agg (cB 256 (subN 256)), .agg (cB 256 (undoN 256))]) ∧ Below w.heap.size w w' := by
  have hz0 := zero256
  have e1 : (w.alloc (.cells (cB 256 (fun _ => 0#8)) 44)).heap.size = w.heap.size + 1 := by simp
  have HS0 := Lib.hid ((Blk.Is.new w (cB 256 (fun _ => 0#8)) 44).alloc (.cells (cB 256 (fun _ => 0#8)) 44))
  have HU0 := Lib.hid (Blk.Is.new (w.alloc (.cells (cB 256 (fun _ => 0#8)) 44)) (cB 256 (fun _ => 0#8)) 44)
  rw [e1] at HU0
  have HB0 := Lib.hid (((Below.refl _ w).alloc (Nat.le_refl _) (.cells (cB 256 (fun _ => 0#8)) 44)).alloc (by omega) (.cells (cB 256 (fun _ => 0#8)) 44))
  clear e1
  go_enter Try.func32, Try.ntmps32
  go_wp2_with fail
  clear hz0
  generalize (w.alloc (.cells (cB 256 (fun _ => 0#8)) 44)).alloc (.cells (cB 256 (fun _ => 0#8)) 44) = w0 at *
  generalize hg : w.heap.size = g at *
  have HG := Lib.hid hg
  clear hg
  go_loopw [2, 3, 4, 5, 6, 7, 8, 9, 10, 11, 12, 13, 14, 15, 16, 17, 18, 19, 20, 21, 22, 23, 24, 25, 26, 27, 28, 29, 30, 31, 32] (fun v2 v3 v4 v5 v6 v7 v8 v9 v10 v11 v12 v13 v14 v15 v16 v17 v18 v19 v20 v21 v22 v23 v24 v25 v26 v27 v28 v29 v30 v31 v32 wr => ∃ (i : Nat), i ≤ 256 ∧ v5 = .int .i64 (i : Int) ∧ Hid (Blk.Is wr g (cB 256 (subN i)) 44) ∧ Hid (Blk.Is wr (g + 1) (cB 256 (undoN i)) 44) ∧ Hid (Below g w wr)) (fun _ _ _ v5 _ _ _ _ _ _ _ _ _ _ _ _ _ _ _ _ _ _ _ _ _ _ _ _ _ _ _ _ => 256 - (intOf v5).toNat)
  case atStart => exact ⟨0, by omega, rfl, HS0, HU0, HB0⟩
  case round =>
    clear HS0 HU0 HB0
    obtain ⟨i, hi, rfl, HS, HU, HB⟩ := hrel
    obtain ⟨wo, rfl⟩ : ∃ wo, wo = wr := ⟨_, rfl⟩
    by_cases hlt : i < 256
    · have hx : IntKind.u8.wrap (i : Int) = ofB (BitVec.ofNat 8 i) := by
        show (i : Int) % 256 = _
        unfold ofB
        rw [BitVec.toNat_ofNat]
        omega
      have HX : Hid (BitVec.ofNat 8 i = BitVec.ofNat 8 i) := rfl
      go_wp2_with fail
      have HGS := Lib.hid (show g ≤ wo.heap.size by have := HB.out.size; have := HG.out; omega)
      refine (inv_calls _ wo).mono ?_
      rintro e w1 ⟨rfl, hB⟩
      have HS1 := Lib.hid (HS.out.below hB HS.out.lt)
      have HU1 := Lib.hid (HU.out.below hB HU.out.lt)
      have HB1 := Lib.hid (HB.out.trans (hB.mono HGS.out))
      clear HS HU HB hB HGS
      have hxor : ∀ a b : B, Go.bits .xor .u8 (ofB a) (ofB b) = ofB (a ^^^ b) := bits_xor
      have h99 : ∀ a : B, Go.bits .xor .u8 (ofB a) 99 = ofB (a ^^^ 0x63#8) := fun a => bits_xor a 0x63#8
      have HSB : Hid (sb (BitVec.ofNat 8 i) = sbox (inv (BitVec.ofNat 8 i))) := rfl
      generalize hy : inv (BitVec.ofNat 8 i) = y at *
      clear hy
      go_wp2_with fail
      refine (turn_calls1 y w1).mono ?_
      rintro e w' ⟨rfl, ⟨nd, rfl⟩⟩
      have HS2 := Lib.hid (HS1.out.drewN nd)
      have HU2 := Lib.hid (HU1.out.drewN nd)
      have HB2 := Lib.hid (pw_below_drewN HB1.out nd)
      clear HS1 HU1 HB1
      generalize w1.drewN nd = w2 at *
      go_wp2_with fail
      refine (turn_calls2 y w2).mono ?_
      rintro e w' ⟨rfl, ⟨nd, rfl⟩⟩
      have HS3 := Lib.hid (HS2.out.drewN nd)
      have HU3 := Lib.hid (HU2.out.drewN nd)
      have HB3 := Lib.hid (pw_below_drewN HB2.out nd)
      clear HS2 HU2 HB2
      generalize w2.drewN nd = w3 at *
      go_wp2_with fail
      refine (turn_calls3 y w3).mono ?_
      rintro e w' ⟨rfl, ⟨nd, rfl⟩⟩
      have HS4 := Lib.hid (HS3.out.drewN nd)
      have HU4 := Lib.hid (HU3.out.drewN nd)
      have HB4 := Lib.hid (pw_below_drewN HB3.out nd)
      clear HS3 HU3 HB3
      generalize w3.drewN nd = w4 at *
      go_wp2_with fail
      refine (turn_calls4 y w4).mono ?_
      rintro e w' ⟨rfl, ⟨nd, rfl⟩⟩
      have HS5 := Lib.hid (HS4.out.drewN nd)
      have HU5 := Lib.hid (HU4.out.drewN nd)
      have HB5 := Lib.hid (pw_below_drewN HB4.out nd)
      clear HS4 HU4 HB4
      generalize w4.drewN nd = w5 at *
      have HV : Hid (((((y ^^^ rot y 1) ^^^ rot y 2) ^^^ rot y 3) ^^^ rot y 4) ^^^ 0x63#8 = sb (BitVec.ofNat 8 i)) := HSB.out.symm
      have hv := HV.out
      generalize hx2 : sb (BitVec.ofNat 8 i) = x at *
      have HX2 := Lib.hid hx2
      clear hx2
      have hf1 := HS5.out.free i
      have hc1 : w5.cell? ⟨g, i, none⟩ = some (.int .u8 (ofB (subN i i))) := by rw [HS5.out.cell]; exact cB_get 256 _ i hlt
      have hc2 : w5.cell? ⟨g + 1, (ofB x).toNat, none⟩ = some (.int .u8 (ofB (undoN i x.toNat))) := by
        have e : (ofB x).toNat = x.toNat := by simp [ofB]
        rw [HU5.out.cell, e]; exact cB_get 256 _ _ x.isLt
      have hf2 := HU5.out.free (ofB x).toNat
      have hr1 := (ofB_range x).1
      have hr2 := (ofB_range x).2
      go_wp2_with fail
      have e : (ofB x).toNat = x.toNat := by simp [ofB]
      go_roundw
      case rel =>
        refine ⟨i + 1, by omega, by go_num, ?_, ?_, (HB5.out.setCell (Nat.le_refl _) _).setCell (by simp) _⟩
        · have h := (HS5.out.set i (.int .u8 (ofB x))).other (a := ⟨g + 1, (ofB x).toNat, none⟩) (by simp) (.int .u8 (ofB (BitVec.ofNat 8 i)))
          rw [cB_set, ← HX2.out] at h
          rw [← HX2.out]
          exact h
        · have h := (HU5.out.other (a := ⟨g, i, none⟩) (by simp) (.int .u8 (ofB x))).set (ofB x).toNat (.int .u8 (ofB (BitVec.ofNat 8 i)))
          rw [cB_set, e, ← HX2.out] at h
          rw [e, ← HX2.out]
          exact h
      case measure => simp [intOf]; omega
    · obtain rfl : i = 256 := by omega
      have ll := Blk.load_row HS.out.drew (P := Try.prog) (t := 44) Try.underlying44 rfl (by rw [cB_size]; kernel_rfl)
      have le := Blk.load_row HU.out.drew (P := Try.prog) (t := 44) Try.underlying44 rfl (by rw [cB_size]; kernel_rfl)
      have sl := Blk.store_same HS.out.drew (P := Try.prog) (t := 44) (by rw [cB_size]; kernel_rfl) (cB_one _ _)
      have se := Blk.store_same HU.out.drew (P := Try.prog) (t := 44) (by rw [cB_size]; kernel_rfl) (cB_one _ _)
      go_wp2_with fail
      go_region
      all_goals
        go_wp2_with fail
        refine bodyPost_ret (Blk.results2 (P := Try.prog) rfl _ (cs := cB 256 (subN 256)) (cs' := cB 256 (undoN 256)) rfl rfl HS.out.drew HU.out.drew Try.underlying44 rfl (by rw [cB_size]; kernel_rfl) Try.underlying44 rfl (by rw [cB_size]; kernel_rfl)) rfl ?_
        exact ⟨rfl, by rw [HG.out]; exact HB.out.drew⟩
end Go.Proofs.Ytbebmbcjddibaaa.Aes
namespace Go.Proofs.Ytbebmbcjddibaaa.Aes
set_option linter.unusedVariables false
set_option linter.unusedSimpArgs false
open Go.RowKit Go.Proofs.YtbebmbcjddibaaaW.PrintWords Go.Proofs.YtbebmbcjddibaaaW.PrintLast Go.Proofs.YtbebmbcjddibaaaW.PrintMore
open Gf Gfi Poly AesF
/-- n bytes of g laid over f from o on. -/
def blend (f : Nat → B) (o n : Nat) (g : Nat → B) : Nat → B := fun q => if o ≤ q ∧ q < o + n then g (q - o) else f q
theorem cells_is {T : TypeId} {b N : Nat} (n : Nat) : ∀ (W : World) (f : Nat → B) (o : Nat) (g : Nat → B), Blk.Is W b (cB N f) T →
    Blk.Is (W.setCells b o ((List.range n).map fun q => Value.int .u8 (ofB (g q)))) b (cB N (blend f o n g)) T ∧ Keeps b W (W.setCells b o ((List.range n).map fun q => Value.int .u8 (ofB (g q)))) := by
  induction n with
  | zero =>
    intro W f o g h
    refine ⟨?_, Keeps.refl _ _⟩
    have e : cB N (blend f o 0 g) = cB N f := cB_congr (fun q _ => by unfold blend; rw [if_neg (by omega)])
    rw [e]
    exact h
  | succ n ih =>
    intro W f o g h
    rw [List.range_succ_eq_map, List.map_cons, List.map_map]
    have h1 := h.set o (.int .u8 (ofB (g 0)))
    rw [cB_set] at h1
    obtain ⟨h2, h3⟩ := ih (W.setCell ⟨b, o, none⟩ (.int .u8 (ofB (g 0)))) (updB f o (g 0)) (o + 1) (fun q => g (q + 1)) h1
    have e : cB N (blend (updB f o (g 0)) (o + 1) n (fun q => g (q + 1))) = cB N (blend f o (n + 1) g) := cB_congr (fun q _ => by
      unfold blend updB
      by_cases e1 : q = o
      · subst e1
        rw [if_neg (by omega), if_pos rfl, if_pos (by omega), Nat.sub_self]
      · by_cases e2 : o + 1 ≤ q ∧ q < o + 1 + n
        · rw [if_pos e2, if_pos (by omega)]
          show g (q - (o + 1) + 1) = g (q - o)
          rw [show q - (o + 1) + 1 = q - o by omega]
        · rw [if_neg e2, if_neg e1, if_neg (by omega)])
    rw [e] at h2
    exact ⟨h2, ((Keeps.refl b W).setCell rfl _).trans h3⟩
theorem cB_list (n : Nat) (g : Nat → B) : (cB n g).toList = (List.range n).map fun q => Value.int .u8 (ofB (g q)) := rfl
/-- A store of n bytes. -/
theorem st_mid {W : World} {b N : Nat} {f : Nat → B} {T : TypeId} (h : Blk.Is W b (cB N f) T) (t : TypeId) (o n : Nat) (hn : o + n ≤ N) (g : Nat → B) (hi : (Try.prog.info? t).map (·.size) = some n) :
    ∃ W', (Blk.st t (.pointer (some ⟨b, o, none⟩)) (.agg (cB n g))).run Try.prog W = .ok () W' ∧ Blk.Is W' b (cB N (blend f o n g)) T ∧ Keeps b W W' := by
  refine ⟨_, run_storeAt_mid W b o t (cB n g) (fun j hj => ?_) (by rw [hi, cB_size]) (cB_one n g), cells_is n W f o g h⟩
  rw [cB_size] at hj
  refine ⟨?_, h.free _⟩
  rw [h.cell, cB_get N f (o + j) (by omega)]
  rfl
/-- A copy of n bytes. -/
theorem cp_mid {W : World} {b N : Nat} {f : Nat → B} {T : TypeId} (h : Blk.Is W b (cB N f) T) (o n dLen dCap : Nat) (hn : o + n ≤ N) (hl : n ≤ dLen) {c : Nat} {M : Nat} {g : Nat → B} {T' : TypeId} (hs : Blk.Is W c (cB M g) T') (hM : n ≤ M) (cap : Nat)
    (dT sT ty elem : TypeId) (hu : Try.prog.underlying dT = some (.slice elem)) (hi : (Try.prog.info? elem).map (·.size) = some 1) :
    ∃ W', (Builtin.copy_ #[dT, sT] ty #[.slice (some ⟨b, o, none⟩) dLen dCap, .slice (some ⟨c, 0, none⟩) n cap]).run Try.prog W = .ok (goInt n) W' ∧ Blk.Is W' b (cB N (blend f o n g)) T ∧ Keeps b W W' := by
  have hr := run_copy_cells (P := Try.prog) W dT sT ty elem b o dLen dCap ⟨c, 0, none⟩ n cap ((List.range n).map fun q => Value.int .u8 (ofB (g q))) hu hi (by simp [Nat.min_eq_left hl])
    (fun j v hj => by
      have hjl : j < n := by have := (List.getElem?_eq_some_iff.1 hj).1; rwa [List.length_map, List.length_range] at this
      rw [List.getElem?_map, List.getElem?_range hjl] at hj
      rw [Addr.add_mid, Nat.zero_add, hs.cell, cB_get M g j (by omega)]
      exact hj)
    (fun j hj => by
      rw [List.length_map, List.length_range] at hj
      rw [h.cell, cB_get N f (o + j) (by omega)]
      rfl)
    (fun j hj => h.free _)
    (fun v hv => by obtain ⟨q, _, rfl⟩ := List.mem_map.1 hv; rfl)
  rw [List.length_map, List.length_range] at hr
  exact ⟨_, hr, cells_is n W f o g h⟩
theorem zeroKey (w : World) : (zeroValue 53).run Try.prog w = .ok (.agg (cB 752 (fun _ => 0#8))) w := by kernel_rfl
theorem zeroRows (w : World) : (zeroValue 68).run Try.prog w = .ok (.agg (cB 240 (fun _ => 0#8))) w := by kernel_rfl
theorem cut32 (s c : Nat) (h : c ≤ 28) (W : World) : (Instr.sliceAt 22 (.pointer (some ⟨s, 0, none⟩)) (some (.int .i64 (c : Int))) (some (.int .i64 ((c : Int) + 4))) none).run Try.prog W = .ok (.slice (some ⟨s, c, none⟩) 4 (32 - c)) W := by
  have hl : Try.prog.arrayLen 22 = 32 := by kernel_rfl
  have hs : (sizeOf (Try.prog.elem 22)).run Try.prog W = .ok 1 W := by kernel_rfl
  rw [run_sliceAt_array_lh W 22 ⟨s, 0, none⟩ (by kernel_rfl) .i64 .i64 (c : Int) ((c : Int) + 4) (by omega) (by omega) (by rw [hl]; omega), hs, hl]
  have e1 : ((c : Int) + 4).toNat = c + 4 := by omega
  simp only [Result.andThen, slicedAt, e1, Int.toNat_natCast]
  rw [if_neg (by omega), Nat.mul_one, Nat.add_sub_cancel_left, Addr.add_mid, Nat.zero_add]
theorem cut16 (s o c : Nat) (h : c ≤ 12) (W : World) : (Instr.sliceAt 37 (.pointer (some ⟨s, o, none⟩)) (some (.int .i64 (c : Int))) none none).run Try.prog W = .ok (.slice (some ⟨s, o + c, none⟩) (16 - c) (16 - c)) W := by
  have hl : Try.prog.arrayLen 37 = 16 := by kernel_rfl
  have hs : (sizeOf (Try.prog.elem 37)).run Try.prog W = .ok 1 W := by kernel_rfl
  rw [run_sliceAt_array_l W 37 ⟨s, o, none⟩ (by kernel_rfl) .i64 (c : Int) (by omega) (by rw [hl]; omega), hs, hl]
  simp only [Result.andThen, slicedAt, Int.toNat_natCast]
  rw [if_neg (by omega), Nat.mul_one, Addr.add_mid]
theorem part4 (f : Nat → B) (i : Nat) (h : i < 60) : (cB 240 f).extract (i * 4) (i * 4 + 4) = cB 4 (fun q => f (4 * i + q)) := by
  apply Array.ext_getElem?
  intro j
  by_cases hj : j < 4
  · rw [Array.getElem?_extract, cB_get 4 _ j hj, if_pos (by rw [cB_size]; omega), cB_get 240 f (i * 4 + j) (by omega), Nat.mul_comm]
  · rw [Array.getElem?_eq_none (by rw [Array.size_extract, cB_size]; omega), Array.getElem?_eq_none (by rw [cB_size]; omega)]
theorem idx41 (f : Nat → B) (i : Nat) (h : i < 60) (W : World) : (Instr.index 68 (.agg (cB 240 f)) (.int .i64 (i : Int))).run Try.prog W = .ok (.agg (cB 4 (fun q => f (4 * i + q)))) W := by
  have h1 : (0 : Int) ≤ (i : Int) ∧ (i : Int) < (60 : Int) := by omega
  have hs : (sizeOf 62).run Try.prog W = .ok 4 W := by kernel_rfl
  have ha : (isAgg 62).run Try.prog W = .ok true W := by kernel_rfl
  have hp := part4 f i h
  simp [Instr.index, asIntOf, run_underlying Try.underlying68, h, Sem.run_bind, hs, part, ha, hp, Result.andThen]
end Go.Proofs.Ytbebmbcjddibaaa.Aes
