/- What is said here: the field of 256 elements as bits, as tables and as whole numbers; its polynomials' values. -/
import Derived.WalkKit
import Derived.KernelRfl
namespace Go.Proofs.Ytbebmbcjddibaaa.Gf
set_option linter.unusedVariables false
set_option linter.unusedSimpArgs false

abbrev B := BitVec 8
/-- Times t. -/
def xt (a : B) : B := (a <<< 1) ^^^ (if a.getLsbD 7 then 0x1b#8 else 0#8)
/-- The product, by n bits of the second. -/
def mulN : Nat → B → B → B
  | 0, _, _ => 0#8
  | n + 1, a, b => (if b.getLsbD 0 then a else 0#8) ^^^ mulN n (xt a) (b >>> 1)
/-- The product. -/
def mul (a b : B) : B := mulN 8 a b

theorem all_bits {P : B → Prop} (h : ∀ i : Fin 256, P (BitVec.ofFin i)) (a : B) : P a := h a.toFin

theorem xor4 (a b c d : B) : (a ^^^ b) ^^^ (c ^^^ d) = (a ^^^ c) ^^^ (b ^^^ d) := by
  rw [BitVec.xor_assoc, BitVec.xor_assoc, ← BitVec.xor_assoc b c d, BitVec.xor_comm b c, BitVec.xor_assoc c b d]

theorem ite_xor (c d : Bool) (x : B) : ((if c then x else 0#8) ^^^ (if d then x else 0#8)) = (if (c ^^ d) then x else 0#8) := by
  cases c <;> cases d <;> simp
theorem ite_xor2 (c : Bool) (x y : B) : ((if c then x else 0#8) ^^^ (if c then y else 0#8)) = (if c then x ^^^ y else 0#8) := by
  cases c <;> simp

theorem xt_xor (a b : B) : xt (a ^^^ b) = xt a ^^^ xt b := by
  unfold xt
  rw [xor4, ite_xor, BitVec.shiftLeft_xor_distrib, BitVec.getLsbD_xor]

theorem mulN_xor_left (n : Nat) : ∀ a a' b : B, mulN n (a ^^^ a') b = mulN n a b ^^^ mulN n a' b := by
  induction n with
  | zero => intro a a' b; simp [mulN]
  | succ n ih =>
    intro a a' b
    rw [mulN, mulN, mulN, xt_xor, ih, xor4, ite_xor2]
theorem mulN_xor_right (n : Nat) : ∀ a b b' : B, mulN n a (b ^^^ b') = mulN n a b ^^^ mulN n a b' := by
  induction n with
  | zero => intro a b b'; simp [mulN]
  | succ n ih =>
    intro a b b'
    rw [mulN, mulN, mulN, BitVec.ushiftRight_xor_distrib, ih, xor4, ite_xor, BitVec.getLsbD_xor]

theorem add_mul (a a' b : B) : mul (a ^^^ a') b = mul a b ^^^ mul a' b := mulN_xor_left 8 a a' b
theorem mul_add (a b b' : B) : mul a (b ^^^ b') = mul a b ^^^ mul a b' := mulN_xor_right 8 a b b'

/-- The eight elements of one bit. -/
def e (i : Fin 8) : B := 1#8 <<< i.1
/-- What a linear map does is told by what it does with the eight. -/
theorem span (a : B) : a = (if a.getLsbD 0 then e 0 else 0#8) ^^^ ((if a.getLsbD 1 then e 1 else 0#8) ^^^ ((if a.getLsbD 2 then e 2 else 0#8) ^^^ ((if a.getLsbD 3 then e 3 else 0#8) ^^^ ((if a.getLsbD 4 then e 4 else 0#8) ^^^ ((if a.getLsbD 5 then e 5 else 0#8) ^^^ ((if a.getLsbD 6 then e 6 else 0#8) ^^^ (if a.getLsbD 7 then e 7 else 0#8))))))) := by
  revert a
  exact all_bits (by decide +kernel)
theorem lin_ext {f g : B → B} (hf : ∀ x y, f (x ^^^ y) = f x ^^^ f y) (hg : ∀ x y, g (x ^^^ y) = g x ^^^ g y) (h : ∀ i : Fin 8, f (e i) = g (e i)) (a : B) : f a = g a := by
  have f0 : f 0#8 = 0#8 := by have := hf 0#8 0#8; simpa using this
  have g0 : g 0#8 = 0#8 := by have := hg 0#8 0#8; simpa using this
  have hi : ∀ (c : Bool) (i : Fin 8), f (if c then e i else 0#8) = g (if c then e i else 0#8) := by
    intro c i
    cases c
    · simpa using f0.trans g0.symm
    · simpa using h i
  rw [span a]
  simp only [hf, hg, hi]

theorem mul_comm (a b : B) : mul a b = mul b a := by
  refine lin_ext (f := fun x => mul a x) (g := fun x => mul x a) (fun x y => mul_add a x y) (fun x y => add_mul x y a) (fun i => ?_) b
  refine lin_ext (f := fun x => mul x (e i)) (g := fun x => mul (e i) x) (fun x y => add_mul x y _) (fun x y => mul_add _ x y) (fun j => ?_) a
  revert i j
  decide +kernel

theorem mul_assoc (a b c : B) : mul (mul a b) c = mul a (mul b c) := by
  refine lin_ext (f := fun x => mul (mul a b) x) (g := fun x => mul a (mul b x)) (fun x y => mul_add _ x y) (fun x y => by simp only [mul_add]) (fun i => ?_) c
  refine lin_ext (f := fun x => mul (mul a x) (e i)) (g := fun x => mul a (mul x (e i))) (fun x y => by simp only [mul_add, add_mul]) (fun x y => by simp only [mul_add, add_mul]) (fun j => ?_) b
  refine lin_ext (f := fun x => mul (mul x (e j)) (e i)) (g := fun x => mul x (mul (e j) (e i))) (fun x y => by simp only [add_mul]) (fun x y => by simp only [add_mul]) (fun k => ?_) a
  revert i j k
  decide +kernel

theorem mul_one (a : B) : mul a 1#8 = a := by
  revert a
  exact all_bits (by decide +kernel)
theorem one_mul (a : B) : mul 1#8 a = a := by rw [mul_comm, mul_one]
theorem mul_zero (a : B) : mul a 0#8 = 0#8 := by
  have := mul_add a 0#8 0#8
  simpa using this
theorem zero_mul (a : B) : mul 0#8 a = 0#8 := by rw [mul_comm, mul_zero]

/-- The powers of 3. -/
def p3 : Nat → B
  | 0 => 1#8
  | k + 1 => mul 3#8 (p3 k)
theorem p3_add (i j : Nat) : p3 (i + j) = mul (p3 i) (p3 j) := by
  induction i with
  | zero => rw [Nat.zero_add, p3, one_mul]
  | succ i ih => rw [Nat.succ_add, p3, p3, ih, mul_assoc]
/-- A power, by squares: for the kernel. -/
def sq (a : B) : B := mul a a
theorem p3_255 : p3 255 = 1#8 := by decide +kernel
theorem p3_mul (n k : Nat) : p3 (255 * n + k) = p3 k := by
  induction n with
  | zero => rw [Nat.mul_zero, Nat.zero_add]
  | succ n ih => rw [Nat.mul_succ, show 255 * n + 255 + k = 255 + (255 * n + k) by omega, p3_add, p3_255, one_mul, ih]
theorem p3_mod (n : Nat) : p3 (n % 255) = p3 n := by
  conv => rhs; rw [← Nat.div_add_mod n 255]
  rw [p3_mul]
/-- The logarithm: sought among all. -/
def lgN (a : B) : Nat → Nat → B → Nat
  | 0, _, _ => 0
  | n + 1, i, x => if x = a then i else lgN a n (i + 1) (mul 3#8 x)
def lg (a : B) : Nat := lgN a 255 0 1#8
theorem p3_lg (a : B) (ha : a ≠ 0#8) : p3 (lg a) = a := by
  revert a
  exact all_bits (by decide +kernel)
theorem lg_lt (a : B) : lg a < 255 := by
  revert a
  exact all_bits (by decide +kernel)
theorem lg_p3 : ∀ i : Fin 255, lg (p3 i.1) = i.1 := by decide +kernel
theorem p3_ne (k : Nat) : p3 k ≠ 0#8 := by
  rw [← p3_mod]
  have h : ∀ i : Fin 255, p3 i.1 ≠ 0#8 := by decide +kernel
  exact h ⟨k % 255, Nat.mod_lt _ (by omega)⟩
theorem p3_inj {i j : Nat} (hi : i < 255) (hj : j < 255) (h : p3 i = p3 j) : i = j := by
  have := congrArg lg h
  rwa [lg_p3 ⟨i, hi⟩, lg_p3 ⟨j, hj⟩] at this
/-- The inverse. -/
def inv (a : B) : B := if a = 0#8 then 0#8 else p3 (255 - lg a)
theorem mul_inv (a : B) (ha : a ≠ 0#8) : mul a (inv a) = 1#8 := by
  rw [inv, if_neg ha]
  conv => lhs; arg 1; rw [← p3_lg a ha]
  rw [← p3_add, show lg a + (255 - lg a) = 255 by have := lg_lt a; omega, p3_255]
theorem inv_zero : inv 0#8 = 0#8 := rfl
theorem inv_ne (a : B) (ha : a ≠ 0#8) : inv a ≠ 0#8 := by rw [inv, if_neg ha]; exact p3_ne _
theorem mul_ne (a b : B) (ha : a ≠ 0#8) (hb : b ≠ 0#8) : mul a b ≠ 0#8 := by
  rw [← p3_lg a ha, ← p3_lg b hb, ← p3_add]
  exact p3_ne _
theorem mul_cancel {a b c : B} (ha : a ≠ 0#8) (h : mul a b = mul a c) : b = c := by
  have := congrArg (mul (inv a)) h
  rwa [← mul_assoc, ← mul_assoc, mul_comm (inv a) a, mul_inv a ha, one_mul, one_mul] at this
theorem inv_unique {a b : B} (h : mul a b = 1#8) : b = inv a := by
  have ha : a ≠ 0#8 := by
    rintro rfl
    rw [zero_mul] at h
    exact absurd h (by decide)
  exact mul_cancel ha (h.trans (mul_inv a ha).symm)
theorem inv_inv (a : B) : inv (inv a) = a := by
  by_cases ha : a = 0#8
  · subst ha; rfl
  · exact (inv_unique (by rw [mul_comm, mul_inv a ha])).symm
end Go.Proofs.Ytbebmbcjddibaaa.Gf

namespace Go.Proofs.Ytbebmbcjddibaaa.Tab
set_option linter.unusedVariables false
set_option linter.unusedSimpArgs false
open Go.RowKit

/-- A byte times t. -/
def dbl (x : Int) : Int := Go.bits .xor .u8 ((x * 2) % 256) ((x / 128) * 27)
/-- The powers of 3. -/
def pw : Nat → Int
  | 0 => 1
  | k + 1 => Go.bits .xor .u8 (pw k) (dbl (pw k))

theorem xor_range (x y : Int) : 0 ≤ Go.bits .xor .u8 x y ∧ Go.bits .xor .u8 x y < 256 := by
  unfold Go.bits
  simp only [IntKind.wrap_u8]
  omega
theorem pw_range (k : Fin 255) : 0 ≤ pw k.1 ∧ pw k.1 < 256 := by
  cases k.1 with
  | zero => exact ⟨by decide, by decide⟩
  | succ n => exact xor_range _ _

abbrev encs (k : Fin 255) : Array Value := #[.int .i64 (k.1 : Int), .int .u8 (pw k.1)]

def upto (k : Nat) : List (Fin 255) := (List.finRange 255).take k
theorem upto_succ (k : Nat) (h : k < 255) : upto (k + 1) = upto k ++ [⟨k, h⟩] := by
  unfold upto
  rw [List.take_succ_eq_append_getElem (by simpa using h)]
  simp
theorem upto_len (k : Nat) (h : k ≤ 255) : (upto k).length = k := by simp [upto, h]

def zlog : Array Value := Array.replicate 256 (.int .i64 0)
def zexp : Array Value := Array.replicate 255 (.int .u8 0)
/-- The two tables behind some of the powers. -/
def logA (pre : List (Fin 255)) : Array Value := pre.foldl (fun a k => a.setIfInBounds (pw k.1).toNat (.int .i64 (k.1 : Int))) zlog
def expA (pre : List (Fin 255)) : Array Value := pre.foldl (fun a k => a.setIfInBounds k.1 (.int .u8 (pw k.1))) zexp
theorem logA_snoc (pre : List (Fin 255)) (k : Fin 255) : logA (pre ++ [k]) = (logA pre).setIfInBounds (pw k.1).toNat (.int .i64 (k.1 : Int)) := by simp [logA]
theorem expA_snoc (pre : List (Fin 255)) (k : Fin 255) : expA (pre ++ [k]) = (expA pre).setIfInBounds k.1 (.int .u8 (pw k.1)) := by simp [expA]
theorem logA_size (pre : List (Fin 255)) : (logA pre).size = 256 := by
  have h : ∀ (pre : List (Fin 255)) (a : Array Value), (pre.foldl (fun a k => a.setIfInBounds (pw k.1).toNat (.int .i64 (k.1 : Int))) a).size = a.size := by
    intro pre
    induction pre with
    | nil => intro a; rfl
    | cons k r ih => intro a; rw [List.foldl_cons, ih]; simp
  unfold logA
  rw [h]
  simp [zlog]
theorem expA_size (pre : List (Fin 255)) : (expA pre).size = 255 := by
  have h : ∀ (pre : List (Fin 255)) (a : Array Value), (pre.foldl (fun a k => a.setIfInBounds k.1 (.int .u8 (pw k.1))) a).size = a.size := by
    intro pre
    induction pre with
    | nil => intro a; rfl
    | cons k r ih => intro a; rw [List.foldl_cons, ih]; simp
  unfold expA
  rw [h]
  simp [zexp]


abbrev LOG := logA (upto 255)
abbrev EXP := expA (upto 255)
/-- The logarithm and the power, as numbers. -/
def logI (a : Int) : Int := (Gf.lg (BitVec.ofInt 8 a) : Int)
def expI (i : Int) : Int := ((Gf.p3 i.toNat).toNat : Int)
def logL : List Value := (List.range 256).map fun (a : Nat) => Value.int .i64 (logI (a : Int))
def expL : List Value := (List.range 255).map fun (a : Nat) => Value.int .u8 (expI (a : Int))
theorem LOG_list : LOG = logL.toArray := by kernel_rfl
theorem EXP_list : EXP = expL.toArray := by kernel_rfl
theorem logI_range (a : Int) : 0 ≤ logI a ∧ logI a ≤ 254 := by
  have := Gf.lg_lt (BitVec.ofInt 8 a)
  unfold logI
  omega
theorem expI_range (i : Int) : 0 ≤ expI i ∧ expI i ≤ 255 := by
  have := (Gf.p3 i.toNat).isLt
  unfold expI
  omega

/-- The power. -/
def pow (a n : Int) : Int := if n = 0 then 1 else if a = 0 then 0 else expI ((logI a * n.tmod 255).tmod 255 % 255)

/-- The two tables, under names that the walk does not lay open. -/
def LT : Array Value := LOG
def ET : Array Value := EXP
theorem LT_eq : LT = logA (upto 255) := by unfold LT; rfl
theorem ET_eq : ET = expA (upto 255) := by unfold ET; rfl
theorem LT_list : LT = logL.toArray := by unfold LT; exact LOG_list
theorem ET_list : ET = expL.toArray := by unfold ET; exact EXP_list
theorem LT_size : LT.size = 256 := by rw [LT_list]; simp [logL]
theorem ET_size : ET.size = 255 := by rw [ET_list]; simp [expL]
theorem LT_one : LT.all (·.oneCell') = true := by rw [LT_list]; simp [logL, Value.oneCell']
theorem ET_one : ET.all (·.oneCell') = true := by rw [ET_list]; simp [expL, Value.oneCell']
theorem logA_one : (logA (upto 255)).all (·.oneCell') = true := by rw [← LT_eq, LT_one]
theorem expA_one : (expA (upto 255)).all (·.oneCell') = true := by rw [← ET_eq, ET_one]
theorem LT_cell (a : Int) (h0 : 0 ≤ a) (h1 : a < 256) : LT[a.toNat]? = some (.int .i64 (logI a)) ∧ 0 ≤ logI a ∧ logI a ≤ 254 := by
  refine ⟨?_, logI_range a⟩
  rw [LT_list, List.getElem?_toArray, logL, List.getElem?_map, List.getElem?_range (by omega), Option.map_some, Int.toNat_of_nonneg h0]
theorem ET_cell (a : Int) (h0 : 0 ≤ a) (h1 : a < 255) : ET[a.toNat]? = some (.int .u8 (expI a)) ∧ 0 ≤ expI a ∧ expI a ≤ 255 := by
  refine ⟨?_, expI_range a⟩
  rw [ET_list, List.getElem?_toArray, expL, List.getElem?_map, List.getElem?_range (by omega), Option.map_some, Int.toNat_of_nonneg h0]
end Go.Proofs.Ytbebmbcjddibaaa.Tab

namespace Go.Proofs.Ytbebmbcjddibaaa.Gfi
set_option linter.unusedVariables false
set_option linter.unusedSimpArgs false
open Go.Proofs.Ytbebmbcjddibaaa.Gf

def ofB (b : B) : Int := (b.toNat : Int)
def toB (x : Int) : B := BitVec.ofInt 8 x
theorem ofB_range (b : B) : 0 ≤ ofB b ∧ ofB b < 256 := by have := b.isLt; unfold ofB; omega
theorem toB_ofB (b : B) : toB (ofB b) = b := by unfold toB ofB; simp
theorem ofB_toB {x : Int} (h0 : 0 ≤ x) (h1 : x < 256) : ofB (toB x) = x := by
  unfold toB ofB
  obtain ⟨n, rfl⟩ := Int.eq_ofNat_of_zero_le h0
  have : n < 256 := by omega
  simp [BitVec.toNat_ofInt]
  omega
theorem ofB_inj {a b : B} (h : ofB a = ofB b) : a = b := by rw [← toB_ofB a, h, toB_ofB]
theorem exists_B {x : Int} (h0 : 0 ≤ x) (h1 : x < 256) : ∃ b : B, x = ofB b := ⟨toB x, (ofB_toB h0 h1).symm⟩
theorem of_wf {x : Int} (h : (Lit.int .u8 x).wf = true) : 0 ≤ x ∧ x < 256 := by
  simp [Lit.wf, IntKind.min, IntKind.max, IntKind.signed, IntKind.bits] at h
  omega
theorem B_of_wf {x : Int} (h : (Lit.int .u8 x).wf = true) : ∃ b : B, x = ofB b := exists_B (of_wf h).1 (of_wf h).2
theorem i64_of_wf {x : Int} (h : (Lit.int .i64 x).wf = true) : -9223372036854775808 ≤ x ∧ x ≤ 9223372036854775807 := by
  simp [Lit.wf, IntKind.min, IntKind.max, IntKind.signed, IntKind.bits] at h
  omega

theorem bits_xor (a b : B) : Go.bits .xor .u8 (ofB a) (ofB b) = ofB (a ^^^ b) := by
  have ha : BitVec.ofInt IntKind.u8.bits (ofB a) = a := toB_ofB a
  have hb : BitVec.ofInt IntKind.u8.bits (ofB b) = b := toB_ofB b
  unfold Go.bits
  simp only [ha, hb, IntKind.wrap_u8]
  show ((a ^^^ b).toNat : Int) % 256 = ((a ^^^ b).toNat : Int)
  have := (a ^^^ b).isLt
  omega
theorem bits_and_one (b : B) : Go.bits .and .u8 (ofB b) 1 = if b.getLsbD 0 then 1 else 0 := by
  revert b
  exact all_bits (by decide +kernel)
theorem all_ofB {P : B → Prop} (h : ∀ i : Fin 256, P (BitVec.ofFin i)) (b : B) : P b := all_bits h b
theorem dbl_ofB (a : B) : Go.bits .xor .u8 ((ofB a * 2) % 256) (((ofB a / 128) * 27) % 256) = ofB (xt a) := by
  revert a
  exact all_bits (by decide +kernel)
theorem half_ofB (b : B) : (ofB b / (2 : Int) : Int) = ofB (b >>> 1) := by
  revert b
  exact all_bits (by decide +kernel)
theorem times_bit (a b : B) : (ofB a * Go.bits .and .u8 (ofB b) 1) % 256 = ofB (if b.getLsbD 0 then a else 0#8) := by
  rw [bits_and_one]
  have := ofB_range a
  split
  · omega
  · rw [Int.mul_zero]; rfl
theorem ofB_eq_zero {b : B} : ofB b = 0 ↔ b = 0#8 := ⟨fun h => ofB_inj h, fun h => by rw [h]; rfl⟩
theorem ofB_zero : ofB 0#8 = 0 := rfl
theorem ofB_one : ofB 1#8 = 1 := rfl

/-- The power, in the field. -/
def powB (a : B) (n : Int) : B := if n = 0 then 1#8 else if a = 0#8 then 0#8 else p3 (((lg a : Int) * n) % 255).toNat
theorem tmod_emod (x : Int) : (x.tmod 255) % 255 = x % 255 := by
  rw [Int.tmod_eq_emod]
  split <;> omega
theorem tab_pow (a : B) (n : Int) : Tab.pow (ofB a) n = ofB (powB a n) := by
  unfold Tab.pow powB
  by_cases hn : n = 0
  · rw [if_pos hn, if_pos hn]; rfl
  · rw [if_neg hn, if_neg hn]
    by_cases ha : a = 0#8
    · rw [if_pos (ofB_eq_zero.2 ha), if_pos ha]; rfl
    · rw [if_neg (fun h => ha (ofB_eq_zero.1 h)), if_neg ha]
      have e : (Tab.logI (ofB a) * n.tmod 255).tmod 255 % 255 = ((lg a : Int) * n) % 255 := by
        have hl : Tab.logI (ofB a) = (lg a : Int) := by
          unfold Tab.logI
          have : BitVec.ofInt 8 (ofB a) = a := toB_ofB a
          rw [this]
        rw [hl, tmod_emod, Int.mul_emod, tmod_emod, ← Int.mul_emod]
      rw [e]
      rfl
theorem powB_zero (a : B) : powB a 0 = 1#8 := by simp [powB]
theorem powB_p3 {a : B} (ha : a ≠ 0#8) (n : Int) : powB a n = p3 (((lg a : Int) * n) % 255).toNat := by
  unfold powB
  rw [if_neg ha]
  split
  · rename_i h
    rw [h, Int.mul_zero]
    rfl
  · rfl
theorem p3_int (x y : Int) : p3 ((x + y) % 255).toNat = mul (p3 (x % 255).toNat) (p3 (y % 255).toNat) := by
  rw [← p3_add, ← p3_mod ((x % 255).toNat + (y % 255).toNat)]
  congr 1
  omega
theorem powB_add {a : B} (ha : a ≠ 0#8) (m n : Int) : powB a (m + n) = mul (powB a m) (powB a n) := by
  rw [powB_p3 ha, powB_p3 ha, powB_p3 ha, Int.mul_add, p3_int]
theorem powB_ne {a : B} (ha : a ≠ 0#8) (n : Int) : powB a n ≠ 0#8 := by rw [powB_p3 ha]; exact p3_ne _
theorem lg_p3' (k : Nat) : lg (p3 k) = k % 255 := by
  rw [← p3_mod]
  exact lg_p3 ⟨k % 255, Nat.mod_lt _ (by omega)⟩
theorem powB_pow {a : B} (ha : a ≠ 0#8) (m n : Int) : powB (powB a m) n = powB a (m * n) := by
  rw [powB_p3 (powB_ne ha m), powB_p3 ha, powB_p3 ha, lg_p3']
  congr 1
  have h : (((((lg a : Int) * m) % 255).toNat % 255 : Nat) : Int) = ((lg a : Int) * m) % 255 := by omega
  rw [h, Int.mul_emod, Int.emod_emod_of_dvd _ (by exact ⟨1, rfl⟩), ← Int.mul_emod, Int.mul_assoc]
theorem powB_mod {a : B} (ha : a ≠ 0#8) (n k : Int) (h : n % 255 = k % 255) : powB a n = powB a k := by
  rw [powB_p3 ha, powB_p3 ha, Int.mul_emod, h, ← Int.mul_emod]
theorem powB_one (a : B) : powB a 1 = a := by
  by_cases ha : a = 0#8
  · subst ha; rfl
  · rw [powB_p3 ha, Int.mul_one]
    have := lg_lt a
    rw [show (((lg a : Int)) % 255).toNat = lg a by omega, p3_lg a ha]
theorem powB_inv (a : B) (n : Int) (hn : n % 255 = 254) : powB a n = inv a := by
  by_cases ha : a = 0#8
  · subst ha
    have : n ≠ 0 := by rintro rfl; simp at hn
    simp [powB, this, inv]
  · apply inv_unique
    have h1 := powB_add ha 1 n
    rw [powB_one] at h1
    rw [← h1, powB_mod ha (1 + n) 0 (by omega), powB_zero]
end Go.Proofs.Ytbebmbcjddibaaa.Gfi

namespace Go.Proofs.Ytbebmbcjddibaaa.Gfr
set_option linter.unusedVariables false
set_option linter.unusedSimpArgs false
open Go.Proofs.Ytbebmbcjddibaaa.Gf Go.Proofs.Ytbebmbcjddibaaa.Gfi

/-- The product of polynomials: the first n bits of b, from bit i on. -/
def cl (a b : Nat) : Nat → Nat → Nat → Nat
  | 0, _, p => p
  | n + 1, i, p => cl a b n (i + 1) (p ^^^ (if b.testBit i then a <<< i else 0))
/-- What is left of it. -/
def rd (n : Nat) (p : Nat) : Nat :=
  match n with
  | 0 => p
  | n + 1 => rd n (p ^^^ (if p.testBit (n + 8) then 0x11b <<< n else 0))

theorem cl_acc (a b n : Nat) : ∀ i p q, cl a b n i (p ^^^ q) = p ^^^ cl a b n i q := by
  induction n with
  | zero => intro i p q; rfl
  | succ n ih => intro i p q; rw [cl, cl, Nat.xor_assoc, ih]
theorem nite_xor (c d : Bool) (x : Nat) : ((if c then x else 0) ^^^ (if d then x else 0)) = (if (c ^^ d) then x else 0) := by
  cases c <;> cases d <;> simp
theorem nite_xor2 (c : Bool) (x y : Nat) : ((if c then x else 0) ^^^ (if c then y else 0)) = (if c then x ^^^ y else 0) := by
  cases c <;> simp
theorem nxor4 (a b c d : Nat) : (a ^^^ b) ^^^ (c ^^^ d) = (a ^^^ c) ^^^ (b ^^^ d) := by
  rw [Nat.xor_assoc, Nat.xor_assoc, ← Nat.xor_assoc b c d, Nat.xor_comm b c, Nat.xor_assoc c b d]
theorem cl_left (b n : Nat) : ∀ a a' i p p', cl (a ^^^ a') b n i (p ^^^ p') = cl a b n i p ^^^ cl a' b n i p' := by
  induction n with
  | zero => intro a a' i p p'; rfl
  | succ n ih =>
    intro a a' i p p'
    rw [cl, cl, cl, ← ih, nxor4, nite_xor2, Nat.shiftLeft_xor_distrib]
theorem cl_right (a n : Nat) : ∀ b b' i p p', cl a (b ^^^ b') n i (p ^^^ p') = cl a b n i p ^^^ cl a b' n i p' := by
  induction n with
  | zero => intro b b' i p p'; rfl
  | succ n ih =>
    intro b b' i p p'
    rw [cl, cl, cl, ← ih, nxor4, nite_xor, Nat.testBit_xor]
theorem rd_xor (n : Nat) : ∀ p q, rd n (p ^^^ q) = rd n p ^^^ rd n q := by
  induction n with
  | zero => intro p q; rfl
  | succ n ih =>
    intro p q
    rw [rd, rd, rd, ← ih, nxor4, nite_xor, Nat.testBit_xor]
/-- The reference's product. -/
def refN (a b : Nat) : Nat := rd 7 (cl a b 8 0 0) % 256
def refB (a b : B) : B := BitVec.ofNat 8 (rd 7 (cl a.toNat b.toNat 8 0 0))
theorem ofNat_xor (x y : Nat) : BitVec.ofNat 8 (x ^^^ y) = BitVec.ofNat 8 x ^^^ BitVec.ofNat 8 y := by
  apply BitVec.eq_of_toNat_eq
  rw [BitVec.toNat_xor, BitVec.toNat_ofNat, BitVec.toNat_ofNat, BitVec.toNat_ofNat]
  exact Nat.xor_mod_two_pow
theorem refB_left (a a' b : B) : refB (a ^^^ a') b = refB a b ^^^ refB a' b := by
  unfold refB
  rw [BitVec.toNat_xor, ← ofNat_xor, ← rd_xor, ← cl_left]
  rfl
theorem refB_right (a b b' : B) : refB a (b ^^^ b') = refB a b ^^^ refB a b' := by
  unfold refB
  rw [BitVec.toNat_xor, ← ofNat_xor, ← rd_xor, ← cl_right]
  rfl
theorem refB_mul (a b : B) : refB a b = mul a b := by
  refine lin_ext (f := fun x => refB a x) (g := fun x => mul a x) (fun x y => refB_right a x y) (fun x y => mul_add a x y) (fun i => ?_) b
  refine lin_ext (f := fun x => refB x (e i)) (g := fun x => mul x (e i)) (fun x y => refB_left x y _) (fun x y => add_mul x y _) (fun j => ?_) a
  revert i j
  decide +kernel
theorem refN_mul (a b : B) : ((rd 7 (cl a.toNat b.toNat 8 0 0) : Nat) : Int) % 256 = ofB (mul a b) := by
  rw [← refB_mul]
  unfold refB ofB
  rw [BitVec.toNat_ofNat]
  omega
/-- How great the numbers on the way are. -/
theorem cl_lt {a b : Nat} (ha : a < 256) (n : Nat) : ∀ i p, i + n ≤ 8 → p < 2 ^ 15 → cl a b n i p < 2 ^ 15 := by
  induction n with
  | zero => intro i p _ hp; exact hp
  | succ n ih =>
    intro i p hi hp
    rw [cl]
    refine ih _ _ (by omega) (Nat.xor_lt_two_pow hp ?_)
    split
    · rw [Nat.shiftLeft_eq]
      have : 2 ^ i ≤ 2 ^ 7 := Nat.pow_le_pow_right (by omega) (by omega)
      calc a * 2 ^ i ≤ 255 * 2 ^ 7 := Nat.mul_le_mul (by omega) this
        _ < 2 ^ 15 := by decide
    · decide
end Go.Proofs.Ytbebmbcjddibaaa.Gfr

namespace Go.Proofs.Ytbebmbcjddibaaa.Poly
set_option linter.unusedVariables false
set_option linter.unusedSimpArgs false
open Go.Proofs.Ytbebmbcjddibaaa.Gf Go.Proofs.Ytbebmbcjddibaaa.Gfi

/-- A polynomial's value: coefficients from that of 1 on. -/
def ev (x : B) : List B → B
  | [] => 0#8
  | c :: r => c ^^^ mul x (ev x r)
/-- Bytes as elements. -/
def ints (l : List B) : List Int := l.map ofB
theorem exists_ints (l : List Int) (h : ∀ x ∈ l, (Lit.int .u8 x).wf = true) : ∃ bs, l = ints bs := by
  induction l with
  | nil => exact ⟨[], rfl⟩
  | cons x l ih =>
    obtain ⟨bs, rfl⟩ := ih (fun y hy => h y (List.mem_cons_of_mem _ hy))
    obtain ⟨b, rfl⟩ := B_of_wf (h x List.mem_cons_self)
    exact ⟨b :: bs, rfl⟩
theorem ints_length (l : List B) : (ints l).length = l.length := by simp [ints]
theorem ints_getD (l : List B) (i : Nat) : (ints l).getD i 0 = ofB (l.getD i 0#8) := by
  simp only [ints, List.getD_eq_getElem?_getD, List.getElem?_map]
  cases l[i]? <;> rfl
theorem drop_step (l : List B) (i : Nat) (h : i < l.length) : l.drop i = l.getD i 0#8 :: l.drop (i + 1) := by
  rw [List.drop_eq_getElem_cons h, List.getD_eq_getElem?_getD, List.getElem?_eq_getElem h]
  rfl
end Go.Proofs.Ytbebmbcjddibaaa.Poly
