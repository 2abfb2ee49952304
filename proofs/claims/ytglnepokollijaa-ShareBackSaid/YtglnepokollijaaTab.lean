/- What is said here: the two tables of the powers of 3, as plain lists of values. It speaks of no program. -/
import Derived.WalkKit
import Derived.KernelRfl
import Derived.Test.YtglnepokollijaaGf
namespace Go.Proofs.Ytglnepokollijaa.Tab
set_option linter.unusedVariables false
set_option linter.unusedSimpArgs false
open Go.RowKit

/-- A byte times t. -/
def dbl (x : Int) : Int := Go.bits .xor .u8 ((x * 2) % 256) ((x / 128) * 27)
/-- The powers of 3. -/
def pw : Nat → Int
  | 0 => 1
  | k + 1 => Go.bits .xor .u8 (pw k) (dbl (pw k))

theorem xor_range (x y : Int) : 0 ≤ Go.bits .xor .u8 x y ∧ Go.bits .xor .u8 x y < 256 := by
  unfold Go.bits
  simp only [IntKind.wrap_u8]
  omega
theorem pw_range (k : Fin 255) : 0 ≤ pw k.1 ∧ pw k.1 < 256 := by
  cases k.1 with
  | zero => exact ⟨by decide, by decide⟩
  | succ n => exact xor_range _ _

abbrev encs (k : Fin 255) : Array Value := #[.int .i64 (k.1 : Int), .int .u8 (pw k.1)]

def upto (k : Nat) : List (Fin 255) := (List.finRange 255).take k
theorem upto_succ (k : Nat) (h : k < 255) : upto (k + 1) = upto k ++ [⟨k, h⟩] := by
  unfold upto
  rw [List.take_succ_eq_append_getElem (by simpa using h)]
  simp
theorem upto_len (k : Nat) (h : k ≤ 255) : (upto k).length = k := by simp [upto, h]

def zlog : Array Value := Array.replicate 256 (.int .i64 0)
def zexp : Array Value := Array.replicate 255 (.int .u8 0)
/-- The two tables behind some of the powers. -/
def logA (pre : List (Fin 255)) : Array Value := pre.foldl (fun a k => a.setIfInBounds (pw k.1).toNat (.int .i64 (k.1 : Int))) zlog
def expA (pre : List (Fin 255)) : Array Value := pre.foldl (fun a k => a.setIfInBounds k.1 (.int .u8 (pw k.1))) zexp
theorem logA_snoc (pre : List (Fin 255)) (k : Fin 255) : logA (pre ++ [k]) = (logA pre).setIfInBounds (pw k.1).toNat (.int .i64 (k.1 : Int)) := by simp [logA]
theorem expA_snoc (pre : List (Fin 255)) (k : Fin 255) : expA (pre ++ [k]) = (expA pre).setIfInBounds k.1 (.int .u8 (pw k.1)) := by simp [expA]
theorem logA_size (pre : List (Fin 255)) : (logA pre).size = 256 := by
  have h : ∀ (pre : List (Fin 255)) (a : Array Value), (pre.foldl (fun a k => a.setIfInBounds (pw k.1).toNat (.int .i64 (k.1 : Int))) a).size = a.size := by
    intro pre
    induction pre with
    | nil => intro a; rfl
    | cons k r ih => intro a; rw [List.foldl_cons, ih]; simp
  unfold logA
  rw [h]
  simp [zlog]
theorem expA_size (pre : List (Fin 255)) : (expA pre).size = 255 := by
  have h : ∀ (pre : List (Fin 255)) (a : Array Value), (pre.foldl (fun a k => a.setIfInBounds k.1 (.int .u8 (pw k.1))) a).size = a.size := by
    intro pre
    induction pre with
    | nil => intro a; rfl
    | cons k r ih => intro a; rw [List.foldl_cons, ih]; simp
  unfold expA
  rw [h]
  simp [zexp]


abbrev LOG := logA (upto 255)
abbrev EXP := expA (upto 255)
/-- The logarithm and the power, as numbers. -/
def logI (a : Int) : Int := (Gf.lg (BitVec.ofInt 8 a) : Int)
def expI (i : Int) : Int := ((Gf.p3 i.toNat).toNat : Int)
def logL : List Value := (List.range 256).map fun (a : Nat) => Value.int .i64 (logI (a : Int))
def expL : List Value := (List.range 255).map fun (a : Nat) => Value.int .u8 (expI (a : Int))
theorem LOG_list : LOG = logL.toArray := by kernel_rfl
theorem EXP_list : EXP = expL.toArray := by kernel_rfl
theorem logI_range (a : Int) : 0 ≤ logI a ∧ logI a ≤ 254 := by
  have := Gf.lg_lt (BitVec.ofInt 8 a)
  unfold logI
  omega
theorem expI_range (i : Int) : 0 ≤ expI i ∧ expI i ≤ 255 := by
  have := (Gf.p3 i.toNat).isLt
  unfold expI
  omega

/-- The power. -/
def pow (a n : Int) : Int := if n = 0 then 1 else if a = 0 then 0 else expI ((logI a * n.tmod 255).tmod 255 % 255)

/-- The two tables, under names that the walk does not lay open. -/
def LT : Array Value := LOG
def ET : Array Value := EXP
theorem LT_eq : LT = logA (upto 255) := by unfold LT; rfl
theorem ET_eq : ET = expA (upto 255) := by unfold ET; rfl
theorem LT_list : LT = logL.toArray := by unfold LT; exact LOG_list
theorem ET_list : ET = expL.toArray := by unfold ET; exact EXP_list
theorem LT_size : LT.size = 256 := by rw [LT_list]; simp [logL]
theorem ET_size : ET.size = 255 := by rw [ET_list]; simp [expL]
theorem LT_one : LT.all (·.oneCell') = true := by rw [LT_list]; simp [logL, Value.oneCell']
theorem ET_one : ET.all (·.oneCell') = true := by rw [ET_list]; simp [expL, Value.oneCell']
theorem logA_one : (logA (upto 255)).all (·.oneCell') = true := by rw [← LT_eq, LT_one]
theorem expA_one : (expA (upto 255)).all (·.oneCell') = true := by rw [← ET_eq, ET_one]
theorem LT_cell (a : Int) (h0 : 0 ≤ a) (h1 : a < 256) : LT[a.toNat]? = some (.int .i64 (logI a)) ∧ 0 ≤ logI a ∧ logI a ≤ 254 := by
  refine ⟨?_, logI_range a⟩
  rw [LT_list, List.getElem?_toArray, logL, List.getElem?_map, List.getElem?_range (by omega), Option.map_some, Int.toNat_of_nonneg h0]
theorem ET_cell (a : Int) (h0 : 0 ≤ a) (h1 : a < 255) : ET[a.toNat]? = some (.int .u8 (expI a)) ∧ 0 ≤ expI a ∧ expI a ≤ 255 := by
  refine ⟨?_, expI_range a⟩
  rw [ET_list, List.getElem?_toArray, expL, List.getElem?_map, List.getElem?_range (by omega), Option.map_some, Int.toNat_of_nonneg h0]
end Go.Proofs.Ytglnepokollijaa.Tab
