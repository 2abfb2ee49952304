/- What is said here: the field of 256 elements, as bit vectors: sums, products, powers of 3, inverses, and their laws. It speaks of no program. -/
import Derived.WalkKit
namespace Go.Proofs.Ytglnepokollijaa.Gf
set_option linter.unusedVariables false
set_option linter.unusedSimpArgs false

abbrev B := BitVec 8
/-- Times t. -/
def xt (a : B) : B := (a <<< 1) ^^^ (if a.getLsbD 7 then 0x1b#8 else 0#8)
/-- The product, by n bits of the second. -/
def mulN : Nat → B → B → B
  | 0, _, _ => 0#8
  | n + 1, a, b => (if b.getLsbD 0 then a else 0#8) ^^^ mulN n (xt a) (b >>> 1)
/-- The product. -/
def mul (a b : B) : B := mulN 8 a b

theorem all_bits {P : B → Prop} (h : ∀ i : Fin 256, P (BitVec.ofFin i)) (a : B) : P a := h a.toFin

theorem xor4 (a b c d : B) : (a ^^^ b) ^^^ (c ^^^ d) = (a ^^^ c) ^^^ (b ^^^ d) := by
  rw [BitVec.xor_assoc, BitVec.xor_assoc, ← BitVec.xor_assoc b c d, BitVec.xor_comm b c, BitVec.xor_assoc c b d]

theorem ite_xor (c d : Bool) (x : B) : ((if c then x else 0#8) ^^^ (if d then x else 0#8)) = (if (c ^^ d) then x else 0#8) := by
  cases c <;> cases d <;> simp
theorem ite_xor2 (c : Bool) (x y : B) : ((if c then x else 0#8) ^^^ (if c then y else 0#8)) = (if c then x ^^^ y else 0#8) := by
  cases c <;> simp

theorem xt_xor (a b : B) : xt (a ^^^ b) = xt a ^^^ xt b := by
  unfold xt
  rw [xor4, ite_xor, BitVec.shiftLeft_xor_distrib, BitVec.getLsbD_xor]

theorem mulN_xor_left (n : Nat) : ∀ a a' b : B, mulN n (a ^^^ a') b = mulN n a b ^^^ mulN n a' b := by
  induction n with
  | zero => intro a a' b; simp [mulN]
  | succ n ih =>
    intro a a' b
    rw [mulN, mulN, mulN, xt_xor, ih, xor4, ite_xor2]
theorem mulN_xor_right (n : Nat) : ∀ a b b' : B, mulN n a (b ^^^ b') = mulN n a b ^^^ mulN n a b' := by
  induction n with
  | zero => intro a b b'; simp [mulN]
  | succ n ih =>
    intro a b b'
    rw [mulN, mulN, mulN, BitVec.ushiftRight_xor_distrib, ih, xor4, ite_xor, BitVec.getLsbD_xor]

theorem add_mul (a a' b : B) : mul (a ^^^ a') b = mul a b ^^^ mul a' b := mulN_xor_left 8 a a' b
theorem mul_add (a b b' : B) : mul a (b ^^^ b') = mul a b ^^^ mul a b' := mulN_xor_right 8 a b b'

/-- The eight elements of one bit. -/
def e (i : Fin 8) : B := 1#8 <<< i.1
/-- What a linear map does is told by what it does with the eight. -/
theorem span (a : B) : a = (if a.getLsbD 0 then e 0 else 0#8) ^^^ ((if a.getLsbD 1 then e 1 else 0#8) ^^^ ((if a.getLsbD 2 then e 2 else 0#8) ^^^ ((if a.getLsbD 3 then e 3 else 0#8) ^^^ ((if a.getLsbD 4 then e 4 else 0#8) ^^^ ((if a.getLsbD 5 then e 5 else 0#8) ^^^ ((if a.getLsbD 6 then e 6 else 0#8) ^^^ (if a.getLsbD 7 then e 7 else 0#8))))))) := by
  revert a
  exact all_bits (by decide +kernel)
theorem lin_ext {f g : B → B} (hf : ∀ x y, f (x ^^^ y) = f x ^^^ f y) (hg : ∀ x y, g (x ^^^ y) = g x ^^^ g y) (h : ∀ i : Fin 8, f (e i) = g (e i)) (a : B) : f a = g a := by
  have f0 : f 0#8 = 0#8 := by have := hf 0#8 0#8; simpa using this
  have g0 : g 0#8 = 0#8 := by have := hg 0#8 0#8; simpa using this
  have hi : ∀ (c : Bool) (i : Fin 8), f (if c then e i else 0#8) = g (if c then e i else 0#8) := by
    intro c i
    cases c
    · simpa using f0.trans g0.symm
    · simpa using h i
  rw [span a]
  simp only [hf, hg, hi]

theorem mul_comm (a b : B) : mul a b = mul b a := by
  refine lin_ext (f := fun x => mul a x) (g := fun x => mul x a) (fun x y => mul_add a x y) (fun x y => add_mul x y a) (fun i => ?_) b
  refine lin_ext (f := fun x => mul x (e i)) (g := fun x => mul (e i) x) (fun x y => add_mul x y _) (fun x y => mul_add _ x y) (fun j => ?_) a
  revert i j
  decide +kernel

theorem mul_assoc (a b c : B) : mul (mul a b) c = mul a (mul b c) := by
  refine lin_ext (f := fun x => mul (mul a b) x) (g := fun x => mul a (mul b x)) (fun x y => mul_add _ x y) (fun x y => by simp only [mul_add]) (fun i => ?_) c
  refine lin_ext (f := fun x => mul (mul a x) (e i)) (g := fun x => mul a (mul x (e i))) (fun x y => by simp only [mul_add, add_mul]) (fun x y => by simp only [mul_add, add_mul]) (fun j => ?_) b
  refine lin_ext (f := fun x => mul (mul x (e j)) (e i)) (g := fun x => mul x (mul (e j) (e i))) (fun x y => by simp only [add_mul]) (fun x y => by simp only [add_mul]) (fun k => ?_) a
  revert i j k
  decide +kernel

theorem mul_one (a : B) : mul a 1#8 = a := by
  revert a
  exact all_bits (by decide +kernel)
theorem one_mul (a : B) : mul 1#8 a = a := by rw [mul_comm, mul_one]
theorem mul_zero (a : B) : mul a 0#8 = 0#8 := by
  have := mul_add a 0#8 0#8
  simpa using this
theorem zero_mul (a : B) : mul 0#8 a = 0#8 := by rw [mul_comm, mul_zero]

/-- The powers of 3. -/
def p3 : Nat → B
  | 0 => 1#8
  | k + 1 => mul 3#8 (p3 k)
theorem p3_add (i j : Nat) : p3 (i + j) = mul (p3 i) (p3 j) := by
  induction i with
  | zero => rw [Nat.zero_add, p3, one_mul]
  | succ i ih => rw [Nat.succ_add, p3, p3, ih, mul_assoc]
/-- A power, by squares: for the kernel. -/
def sq (a : B) : B := mul a a
theorem p3_255 : p3 255 = 1#8 := by decide +kernel
theorem p3_mul (n k : Nat) : p3 (255 * n + k) = p3 k := by
  induction n with
  | zero => rw [Nat.mul_zero, Nat.zero_add]
  | succ n ih => rw [Nat.mul_succ, show 255 * n + 255 + k = 255 + (255 * n + k) by omega, p3_add, p3_255, one_mul, ih]
theorem p3_mod (n : Nat) : p3 (n % 255) = p3 n := by
  conv => rhs; rw [← Nat.div_add_mod n 255]
  rw [p3_mul]
/-- The logarithm: sought among all. -/
def lgN (a : B) : Nat → Nat → B → Nat
  | 0, _, _ => 0
  | n + 1, i, x => if x = a then i else lgN a n (i + 1) (mul 3#8 x)
def lg (a : B) : Nat := lgN a 255 0 1#8
theorem p3_lg (a : B) (ha : a ≠ 0#8) : p3 (lg a) = a := by
  revert a
  exact all_bits (by decide +kernel)
theorem lg_lt (a : B) : lg a < 255 := by
  revert a
  exact all_bits (by decide +kernel)
theorem lg_p3 : ∀ i : Fin 255, lg (p3 i.1) = i.1 := by decide +kernel
theorem p3_ne (k : Nat) : p3 k ≠ 0#8 := by
  rw [← p3_mod]
  have h : ∀ i : Fin 255, p3 i.1 ≠ 0#8 := by decide +kernel
  exact h ⟨k % 255, Nat.mod_lt _ (by omega)⟩
theorem p3_inj {i j : Nat} (hi : i < 255) (hj : j < 255) (h : p3 i = p3 j) : i = j := by
  have := congrArg lg h
  rwa [lg_p3 ⟨i, hi⟩, lg_p3 ⟨j, hj⟩] at this
/-- The inverse. -/
def inv (a : B) : B := if a = 0#8 then 0#8 else p3 (255 - lg a)
theorem mul_inv (a : B) (ha : a ≠ 0#8) : mul a (inv a) = 1#8 := by
  rw [inv, if_neg ha]
  conv => lhs; arg 1; rw [← p3_lg a ha]
  rw [← p3_add, show lg a + (255 - lg a) = 255 by have := lg_lt a; omega, p3_255]
theorem inv_zero : inv 0#8 = 0#8 := rfl
theorem inv_ne (a : B) (ha : a ≠ 0#8) : inv a ≠ 0#8 := by rw [inv, if_neg ha]; exact p3_ne _
theorem mul_ne (a b : B) (ha : a ≠ 0#8) (hb : b ≠ 0#8) : mul a b ≠ 0#8 := by
  rw [← p3_lg a ha, ← p3_lg b hb, ← p3_add]
  exact p3_ne _
theorem mul_cancel {a b c : B} (ha : a ≠ 0#8) (h : mul a b = mul a c) : b = c := by
  have := congrArg (mul (inv a)) h
  rwa [← mul_assoc, ← mul_assoc, mul_comm (inv a) a, mul_inv a ha, one_mul, one_mul] at this
theorem inv_unique {a b : B} (h : mul a b = 1#8) : b = inv a := by
  have ha : a ≠ 0#8 := by
    rintro rfl
    rw [zero_mul] at h
    exact absurd h (by decide)
  exact mul_cancel ha (h.trans (mul_inv a ha).symm)
theorem inv_inv (a : B) : inv (inv a) = a := by
  by_cases ha : a = 0#8
  · subst ha; rfl
  · exact (inv_unique (by rw [mul_comm, mul_inv a ha])).symm
end Go.Proofs.Ytglnepokollijaa.Gf
