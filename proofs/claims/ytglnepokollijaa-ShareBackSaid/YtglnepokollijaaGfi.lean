/- What is said here: bytes as whole numbers and as bit vectors. It speaks of no program. -/
import Derived.Test.YtglnepokollijaaTab
namespace Go.Proofs.Ytglnepokollijaa.Gfi
set_option linter.unusedVariables false
set_option linter.unusedSimpArgs false
open Go.Proofs.Ytglnepokollijaa.Gf

def ofB (b : B) : Int := (b.toNat : Int)
def toB (x : Int) : B := BitVec.ofInt 8 x
theorem ofB_range (b : B) : 0 ≤ ofB b ∧ ofB b < 256 := by have := b.isLt; unfold ofB; omega
theorem toB_ofB (b : B) : toB (ofB b) = b := by unfold toB ofB; simp
theorem ofB_toB {x : Int} (h0 : 0 ≤ x) (h1 : x < 256) : ofB (toB x) = x := by
  unfold toB ofB
  obtain ⟨n, rfl⟩ := Int.eq_ofNat_of_zero_le h0
  have : n < 256 := by omega
  simp [BitVec.toNat_ofInt]
  omega
theorem ofB_inj {a b : B} (h : ofB a = ofB b) : a = b := by rw [← toB_ofB a, h, toB_ofB]
theorem exists_B {x : Int} (h0 : 0 ≤ x) (h1 : x < 256) : ∃ b : B, x = ofB b := ⟨toB x, (ofB_toB h0 h1).symm⟩
theorem of_wf {x : Int} (h : (Lit.int .u8 x).wf = true) : 0 ≤ x ∧ x < 256 := by
  simp [Lit.wf, IntKind.min, IntKind.max, IntKind.signed, IntKind.bits] at h
  omega
theorem B_of_wf {x : Int} (h : (Lit.int .u8 x).wf = true) : ∃ b : B, x = ofB b := exists_B (of_wf h).1 (of_wf h).2
theorem i64_of_wf {x : Int} (h : (Lit.int .i64 x).wf = true) : -9223372036854775808 ≤ x ∧ x ≤ 9223372036854775807 := by
  simp [Lit.wf, IntKind.min, IntKind.max, IntKind.signed, IntKind.bits] at h
  omega

theorem bits_xor (a b : B) : Go.bits .xor .u8 (ofB a) (ofB b) = ofB (a ^^^ b) := by
  have ha : BitVec.ofInt IntKind.u8.bits (ofB a) = a := toB_ofB a
  have hb : BitVec.ofInt IntKind.u8.bits (ofB b) = b := toB_ofB b
  unfold Go.bits
  simp only [ha, hb, IntKind.wrap_u8]
  show ((a ^^^ b).toNat : Int) % 256 = ((a ^^^ b).toNat : Int)
  have := (a ^^^ b).isLt
  omega
theorem bits_and_one (b : B) : Go.bits .and .u8 (ofB b) 1 = if b.getLsbD 0 then 1 else 0 := by
  revert b
  exact all_bits (by decide +kernel)
theorem all_ofB {P : B → Prop} (h : ∀ i : Fin 256, P (BitVec.ofFin i)) (b : B) : P b := all_bits h b
theorem dbl_ofB (a : B) : Go.bits .xor .u8 ((ofB a * 2) % 256) (((ofB a / 128) * 27) % 256) = ofB (xt a) := by
  revert a
  exact all_bits (by decide +kernel)
theorem half_ofB (b : B) : (ofB b / (2 : Int) : Int) = ofB (b >>> 1) := by
  revert b
  exact all_bits (by decide +kernel)
theorem times_bit (a b : B) : (ofB a * Go.bits .and .u8 (ofB b) 1) % 256 = ofB (if b.getLsbD 0 then a else 0#8) := by
  rw [bits_and_one]
  have := ofB_range a
  split
  · omega
  · rw [Int.mul_zero]; rfl
theorem ofB_eq_zero {b : B} : ofB b = 0 ↔ b = 0#8 := ⟨fun h => ofB_inj h, fun h => by rw [h]; rfl⟩
theorem ofB_zero : ofB 0#8 = 0 := rfl
theorem ofB_one : ofB 1#8 = 1 := rfl

/-- The power, in the field. -/
def powB (a : B) (n : Int) : B := if n = 0 then 1#8 else if a = 0#8 then 0#8 else p3 (((lg a : Int) * n) % 255).toNat
theorem tmod_emod (x : Int) : (x.tmod 255) % 255 = x % 255 := by
  rw [Int.tmod_eq_emod]
  split <;> omega
theorem tab_pow (a : B) (n : Int) : Tab.pow (ofB a) n = ofB (powB a n) := by
  unfold Tab.pow powB
  by_cases hn : n = 0
  · rw [if_pos hn, if_pos hn]; rfl
  · rw [if_neg hn, if_neg hn]
    by_cases ha : a = 0#8
    · rw [if_pos (ofB_eq_zero.2 ha), if_pos ha]; rfl
    · rw [if_neg (fun h => ha (ofB_eq_zero.1 h)), if_neg ha]
      have e : (Tab.logI (ofB a) * n.tmod 255).tmod 255 % 255 = ((lg a : Int) * n) % 255 := by
        have hl : Tab.logI (ofB a) = (lg a : Int) := by
          unfold Tab.logI
          have : BitVec.ofInt 8 (ofB a) = a := toB_ofB a
          rw [this]
        rw [hl, tmod_emod, Int.mul_emod, tmod_emod, ← Int.mul_emod]
      rw [e]
      rfl
theorem powB_zero (a : B) : powB a 0 = 1#8 := by simp [powB]
theorem powB_p3 {a : B} (ha : a ≠ 0#8) (n : Int) : powB a n = p3 (((lg a : Int) * n) % 255).toNat := by
  unfold powB
  rw [if_neg ha]
  split
  · rename_i h
    rw [h, Int.mul_zero]
    rfl
  · rfl
theorem p3_int (x y : Int) : p3 ((x + y) % 255).toNat = mul (p3 (x % 255).toNat) (p3 (y % 255).toNat) := by
  rw [← p3_add, ← p3_mod ((x % 255).toNat + (y % 255).toNat)]
  congr 1
  omega
theorem powB_add {a : B} (ha : a ≠ 0#8) (m n : Int) : powB a (m + n) = mul (powB a m) (powB a n) := by
  rw [powB_p3 ha, powB_p3 ha, powB_p3 ha, Int.mul_add, p3_int]
theorem powB_ne {a : B} (ha : a ≠ 0#8) (n : Int) : powB a n ≠ 0#8 := by rw [powB_p3 ha]; exact p3_ne _
theorem lg_p3' (k : Nat) : lg (p3 k) = k % 255 := by
  rw [← p3_mod]
  exact lg_p3 ⟨k % 255, Nat.mod_lt _ (by omega)⟩
theorem powB_pow {a : B} (ha : a ≠ 0#8) (m n : Int) : powB (powB a m) n = powB a (m * n) := by
  rw [powB_p3 (powB_ne ha m), powB_p3 ha, powB_p3 ha, lg_p3']
  congr 1
  have h : (((((lg a : Int) * m) % 255).toNat % 255 : Nat) : Int) = ((lg a : Int) * m) % 255 := by omega
  rw [h, Int.mul_emod, Int.emod_emod_of_dvd _ (by exact ⟨1, rfl⟩), ← Int.mul_emod, Int.mul_assoc]
theorem powB_mod {a : B} (ha : a ≠ 0#8) (n k : Int) (h : n % 255 = k % 255) : powB a n = powB a k := by
  rw [powB_p3 ha, powB_p3 ha, Int.mul_emod, h, ← Int.mul_emod]
theorem powB_one (a : B) : powB a 1 = a := by
  by_cases ha : a = 0#8
  · subst ha; rfl
  · rw [powB_p3 ha, Int.mul_one]
    have := lg_lt a
    rw [show (((lg a : Int)) % 255).toNat = lg a by omega, p3_lg a ha]
theorem powB_inv (a : B) (n : Int) (hn : n % 255 = 254) : powB a n = inv a := by
  by_cases ha : a = 0#8
  · subst ha
    have : n ≠ 0 := by rintro rfl; simp at hn
    simp [powB, this, inv]
  · apply inv_unique
    have h1 := powB_add ha 1 n
    rw [powB_one] at h1
    rw [← h1, powB_mod ha (1 + n) 0 (by omega), powB_zero]
end Go.Proofs.Ytglnepokollijaa.Gfi
