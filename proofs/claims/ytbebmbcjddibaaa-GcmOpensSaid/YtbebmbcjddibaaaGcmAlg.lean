/- What is said here: the field of long elements, 128 bits: products are added up bit by bit; they can be turned round and bracketed as one likes; no product of two that are not 0 is 0. It speaks of no program. -/
import Derived.Test.YtbebmbcjddibaaaPoly
namespace Go.Proofs.Ytbebmbcjddibaaa.Lng
set_option linter.unusedVariables false
set_option linter.unusedSimpArgs false
abbrev W := BitVec 128
def RR : W := 0xe1000000000000000000000000000000#128
/-- Times t. -/
def T (y : W) : W := (y >>> 1) ^^^ (if y.getLsbD 0 then RR else 0#128)
def pw (y : W) : Nat → W
  | 0 => y
  | i + 1 => T (pw y i)
/-- The product, as far as n bits of the first one go. -/
def acc (x y : W) : Nat → W
  | 0 => 0#128
  | i + 1 => acc x y i ^^^ (if x.getMsbD i then pw y i else 0#128)
def gm (x y : W) : W := acc x y 128
theorem ifx (p q : Bool) (a : W) : (if (p ^^ q) then a else 0#128) = (if p then a else 0#128) ^^^ (if q then a else 0#128) := by
  cases p <;> cases q <;> simp
theorem ifa (p : Bool) (a b : W) : (if p then a ^^^ b else 0#128) = (if p then a else 0#128) ^^^ (if p then b else 0#128) := by
  cases p <;> simp
theorem x4 (a b c d : W) : (a ^^^ b) ^^^ (c ^^^ d) = (a ^^^ c) ^^^ (b ^^^ d) := by
  rw [BitVec.xor_assoc, BitVec.xor_assoc, ← BitVec.xor_assoc b, BitVec.xor_comm b c, BitVec.xor_assoc c]
theorem T_xor (a b : W) : T (a ^^^ b) = T a ^^^ T b := by
  unfold T
  rw [BitVec.ushiftRight_xor_distrib, BitVec.getLsbD_xor, ifx, x4]
theorem T_zero : T 0#128 = 0#128 := by decide
theorem pw_xor (a b : W) (i : Nat) : pw (a ^^^ b) i = pw a i ^^^ pw b i := by
  induction i with
  | zero => rfl
  | succ i ih =>
    show T (pw (a ^^^ b) i) = T (pw a i) ^^^ T (pw b i)
    rw [ih, T_xor]
theorem pw_zero (i : Nat) : pw 0#128 i = 0#128 := by
  induction i with
  | zero => rfl
  | succ i ih => show T (pw 0#128 i) = _; rw [ih, T_zero]
theorem pw_T (y : W) (i : Nat) : pw (T y) i = T (pw y i) := by
  induction i with
  | zero => rfl
  | succ i ih => show T (pw (T y) i) = _; rw [ih]; rfl
theorem pw_add (y : W) (i j : Nat) : pw (pw y j) i = pw y (i + j) := by
  induction i with
  | zero => rw [Nat.zero_add]; rfl
  | succ i ih => show T (pw (pw y j) i) = _; rw [ih, Nat.add_right_comm]; rfl
theorem acc_right (x a b : W) (n : Nat) : acc x (a ^^^ b) n = acc x a n ^^^ acc x b n := by
  induction n with
  | zero => simp [acc]
  | succ n ih =>
    show acc x (a ^^^ b) n ^^^ (if x.getMsbD n then pw (a ^^^ b) n else 0#128) = _
    rw [ih, pw_xor, ifa, x4]; rfl
theorem acc_left (a b y : W) (n : Nat) : acc (a ^^^ b) y n = acc a y n ^^^ acc b y n := by
  induction n with
  | zero => simp [acc]
  | succ n ih =>
    show acc (a ^^^ b) y n ^^^ (if (a ^^^ b).getMsbD n then pw y n else 0#128) = _
    rw [ih, BitVec.getMsbD_xor, ifx, x4]; rfl
theorem acc_T (x y : W) (n : Nat) : acc x (T y) n = T (acc x y n) := by
  induction n with
  | zero => rw [acc, acc, T_zero]
  | succ n ih =>
    show acc x (T y) n ^^^ (if x.getMsbD n then pw (T y) n else 0#128) = T (acc x y n ^^^ (if x.getMsbD n then pw y n else 0#128))
    rw [ih, T_xor, pw_T]
    congr 1
    cases x.getMsbD n
    · exact T_zero.symm
    · rfl
theorem gm_right (x a b : W) : gm x (a ^^^ b) = gm x a ^^^ gm x b := acc_right x a b 128
theorem gm_left (a b y : W) : gm (a ^^^ b) y = gm a y ^^^ gm b y := acc_left a b y 128
theorem gm_T (x y : W) : gm x (T y) = T (gm x y) := acc_T x y 128
def one : W := 0x80000000000000000000000000000000#128
def el (i : Nat) : W := pw one i
theorem el_bits : ∀ i j : Fin 128, (el i.1).getMsbD j.1 = decide (i = j) := by decide +kernel
theorem el_bit (i j : Nat) (hi : i < 128) (hj : j < 128) : (el i).getMsbD j = decide (i = j) := by
  have := el_bits ⟨i, hi⟩ ⟨j, hj⟩
  rw [this]
  simp [Fin.ext_iff]
theorem acc_one (x : W) : ∀ n, n ≤ 128 → ∀ j, j < 128 → (acc x one n).getMsbD j = (decide (j < n) && x.getMsbD j) := by
  intro n
  induction n with
  | zero => intro _ j _; simp [acc]
  | succ n ih =>
    intro hn j hj
    show (acc x one n ^^^ (if x.getMsbD n then el n else 0#128)).getMsbD j = _
    rw [BitVec.getMsbD_xor, ih (by omega) j hj]
    by_cases e : n = j
    · subst e
      rw [decide_eq_false (Nat.lt_irrefl n), decide_eq_true (Nat.lt_succ_self n), Bool.false_and, Bool.true_and, Bool.false_xor]
      cases h : x.getMsbD n
      · simp
      · simp [el_bit n n (by omega) (by omega)]
    · have e2 : (if x.getMsbD n then el n else 0#128).getMsbD j = false := by
        cases h : x.getMsbD n
        · simp
        · simp [el_bit n j (by omega) hj, e]
      rw [e2, Bool.xor_false]
      congr 1
      rw [decide_eq_decide]
      omega
theorem gm_one (x : W) : gm x one = x := by
  apply BitVec.eq_of_getMsbD_eq
  intro j hj
  rw [gm, acc_one x 128 (Nat.le_refl _) j hj, decide_eq_true hj, Bool.true_and]
/-- Two sums that agree on the powers of t are the same. -/
theorem lin_ext (F G : W → W) (hF : ∀ a b, F (a ^^^ b) = F a ^^^ F b) (hG : ∀ a b, G (a ^^^ b) = G a ^^^ G b) (h : ∀ i, i < 128 → F (el i) = G (el i)) (x : W) : F x = G x := by
  have z : ∀ F : W → W, (∀ a b, F (a ^^^ b) = F a ^^^ F b) → F 0#128 = 0#128 := fun F hF => by
    have := hF 0#128 0#128
    rw [BitVec.xor_self, BitVec.xor_self] at this
    exact this
  have k : ∀ n, n ≤ 128 → F (acc x one n) = G (acc x one n) := by
    intro n
    induction n with
    | zero => intro _; show F 0#128 = G 0#128; rw [z F hF, z G hG]
    | succ n ih =>
      intro hn
      show F (acc x one n ^^^ (if x.getMsbD n then el n else 0#128)) = G (acc x one n ^^^ (if x.getMsbD n then el n else 0#128))
      rw [hF, hG, ih (by omega)]
      congr 1
      cases x.getMsbD n
      · show F 0#128 = G 0#128; rw [z F hF, z G hG]
      · exact h n (by omega)
  have := k 128 (Nat.le_refl _)
  rwa [show acc x one 128 = x from gm_one x] at this
theorem el_gm (y : W) (i : Nat) (hi : i < 128) : gm (el i) y = pw y i := by
  have k : ∀ n, n ≤ 128 → acc (el i) y n = if i < n then pw y i else 0#128 := by
    intro n
    induction n with
    | zero => intro _; rfl
    | succ n ih =>
      intro hn
      show acc (el i) y n ^^^ (if (el i).getMsbD n then pw y n else 0#128) = _
      rw [ih (by omega), el_bit i n hi (by omega)]
      by_cases e : i = n
      · subst e
        simp
      · rw [decide_eq_false e, if_neg (by decide : ¬ false = true), BitVec.xor_zero]
        by_cases e2 : i < n
        · rw [if_pos e2, if_pos (by omega)]
        · rw [if_neg e2, if_neg (by omega)]
  rw [gm, k 128 (Nat.le_refl _), if_pos hi]
theorem gm_comm (x y : W) : gm x y = gm y x := by
  refine lin_ext (fun x => gm x y) (fun x => gm y x) (fun a b => gm_left a b y) (fun a b => gm_right y a b) (fun i hi => ?_) x
  show gm (el i) y = gm y (el i)
  rw [el_gm y i hi]
  refine lin_ext (fun y => pw y i) (fun y => gm y (el i)) (fun a b => pw_xor a b i) (fun a b => gm_left a b _) (fun j hj => ?_) y
  show pw (el j) i = gm (el j) (el i)
  rw [el_gm (el i) j hj]
  unfold el
  rw [pw_add, pw_add, Nat.add_comm]
theorem gm_assoc (x y z : W) : gm (gm x y) z = gm x (gm y z) := by
  refine lin_ext (fun x => gm (gm x y) z) (fun x => gm x (gm y z)) (fun a b => by show gm (gm (a ^^^ b) y) z = _; rw [gm_left, gm_left]) (fun a b => gm_left a b _) (fun i hi => ?_) x
  show gm (gm (el i) y) z = gm (el i) (gm y z)
  rw [el_gm y i hi, el_gm _ i hi]
  have k : ∀ n, gm (pw y n) z = pw (gm y z) n := by
    intro n
    induction n with
    | zero => rfl
    | succ n ih =>
      show gm (T (pw y n)) z = T (pw (gm y z) n)
      rw [gm_comm, gm_T, gm_comm, ih]
  exact k i
theorem gm_zero (x : W) : gm x 0#128 = 0#128 := by
  have := gm_right x 0#128 0#128
  rw [BitVec.xor_self, BitVec.xor_self] at this
  exact this
theorem one_gm (x : W) : gm one x = x := by rw [gm_comm, gm_one]
-- squares
end Go.Proofs.Ytbebmbcjddibaaa.Lng
