/- What is said here: the product by definition (as the reference has it), over natural numbers, is the field's. It speaks of no program. -/
import Derived.Test.YtglnepokollijaaGfi
namespace Go.Proofs.Ytglnepokollijaa.Gfr
set_option linter.unusedVariables false
set_option linter.unusedSimpArgs false
open Go.Proofs.Ytglnepokollijaa.Gf Go.Proofs.Ytglnepokollijaa.Gfi

/-- The product of polynomials: the first n bits of b, from bit i on. -/
def cl (a b : Nat) : Nat → Nat → Nat → Nat
  | 0, _, p => p
  | n + 1, i, p => cl a b n (i + 1) (p ^^^ (if b.testBit i then a <<< i else 0))
/-- What is left of it. -/
def rd (n : Nat) (p : Nat) : Nat :=
  match n with
  | 0 => p
  | n + 1 => rd n (p ^^^ (if p.testBit (n + 8) then 0x11b <<< n else 0))

theorem cl_acc (a b n : Nat) : ∀ i p q, cl a b n i (p ^^^ q) = p ^^^ cl a b n i q := by
  induction n with
  | zero => intro i p q; rfl
  | succ n ih => intro i p q; rw [cl, cl, Nat.xor_assoc, ih]
theorem nite_xor (c d : Bool) (x : Nat) : ((if c then x else 0) ^^^ (if d then x else 0)) = (if (c ^^ d) then x else 0) := by
  cases c <;> cases d <;> simp
theorem nite_xor2 (c : Bool) (x y : Nat) : ((if c then x else 0) ^^^ (if c then y else 0)) = (if c then x ^^^ y else 0) := by
  cases c <;> simp
theorem nxor4 (a b c d : Nat) : (a ^^^ b) ^^^ (c ^^^ d) = (a ^^^ c) ^^^ (b ^^^ d) := by
  rw [Nat.xor_assoc, Nat.xor_assoc, ← Nat.xor_assoc b c d, Nat.xor_comm b c, Nat.xor_assoc c b d]
theorem cl_left (b n : Nat) : ∀ a a' i p p', cl (a ^^^ a') b n i (p ^^^ p') = cl a b n i p ^^^ cl a' b n i p' := by
  induction n with
  | zero => intro a a' i p p'; rfl
  | succ n ih =>
    intro a a' i p p'
    rw [cl, cl, cl, ← ih, nxor4, nite_xor2, Nat.shiftLeft_xor_distrib]
theorem cl_right (a n : Nat) : ∀ b b' i p p', cl a (b ^^^ b') n i (p ^^^ p') = cl a b n i p ^^^ cl a b' n i p' := by
  induction n with
  | zero => intro b b' i p p'; rfl
  | succ n ih =>
    intro b b' i p p'
    rw [cl, cl, cl, ← ih, nxor4, nite_xor, Nat.testBit_xor]
theorem rd_xor (n : Nat) : ∀ p q, rd n (p ^^^ q) = rd n p ^^^ rd n q := by
  induction n with
  | zero => intro p q; rfl
  | succ n ih =>
    intro p q
    rw [rd, rd, rd, ← ih, nxor4, nite_xor, Nat.testBit_xor]
/-- The reference's product. -/
def refN (a b : Nat) : Nat := rd 7 (cl a b 8 0 0) % 256
def refB (a b : B) : B := BitVec.ofNat 8 (rd 7 (cl a.toNat b.toNat 8 0 0))
theorem ofNat_xor (x y : Nat) : BitVec.ofNat 8 (x ^^^ y) = BitVec.ofNat 8 x ^^^ BitVec.ofNat 8 y := by
  apply BitVec.eq_of_toNat_eq
  rw [BitVec.toNat_xor, BitVec.toNat_ofNat, BitVec.toNat_ofNat, BitVec.toNat_ofNat]
  exact Nat.xor_mod_two_pow
theorem refB_left (a a' b : B) : refB (a ^^^ a') b = refB a b ^^^ refB a' b := by
  unfold refB
  rw [BitVec.toNat_xor, ← ofNat_xor, ← rd_xor, ← cl_left]
  rfl
theorem refB_right (a b b' : B) : refB a (b ^^^ b') = refB a b ^^^ refB a b' := by
  unfold refB
  rw [BitVec.toNat_xor, ← ofNat_xor, ← rd_xor, ← cl_right]
  rfl
theorem refB_mul (a b : B) : refB a b = mul a b := by
  refine lin_ext (f := fun x => refB a x) (g := fun x => mul a x) (fun x y => refB_right a x y) (fun x y => mul_add a x y) (fun i => ?_) b
  refine lin_ext (f := fun x => refB x (e i)) (g := fun x => mul x (e i)) (fun x y => refB_left x y _) (fun x y => add_mul x y _) (fun j => ?_) a
  revert i j
  decide +kernel
theorem refN_mul (a b : B) : ((rd 7 (cl a.toNat b.toNat 8 0 0) : Nat) : Int) % 256 = ofB (mul a b) := by
  rw [← refB_mul]
  unfold refB ofB
  rw [BitVec.toNat_ofNat]
  omega
/-- How great the numbers on the way are. -/
theorem cl_lt {a b : Nat} (ha : a < 256) (n : Nat) : ∀ i p, i + n ≤ 8 → p < 2 ^ 15 → cl a b n i p < 2 ^ 15 := by
  induction n with
  | zero => intro i p _ hp; exact hp
  | succ n ih =>
    intro i p hi hp
    rw [cl]
    refine ih _ _ (by omega) (Nat.xor_lt_two_pow hp ?_)
    split
    · rw [Nat.shiftLeft_eq]
      have : 2 ^ i ≤ 2 ^ 7 := Nat.pow_le_pow_right (by omega) (by omega)
      calc a * 2 ^ i ≤ 255 * 2 ^ 7 := Nat.mul_le_mul (by omega) this
        _ < 2 ^ 15 := by decide
    · decide
end Go.Proofs.Ytglnepokollijaa.Gfr
