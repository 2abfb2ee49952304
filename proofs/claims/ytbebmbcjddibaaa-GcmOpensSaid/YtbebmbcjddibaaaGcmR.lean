/- What is said here: sixteen bytes as a long element; what the program reads is it. -/
import Derived.Test.YtbebmbcjddibaaaGcmU
namespace Go.Proofs.Ytbebmbcjddibaaa.Lng
set_option linter.unusedVariables false
set_option linter.unusedSimpArgs false
open Go.RowKit Go.Proofs.YtbebmbcjddibaaaW.PrintWords Go.Proofs.YtbebmbcjddibaaaW.PrintLast Go.Proofs.YtbebmbcjddibaaaW.PrintMore Go.Proofs.Ytbebmbcjddibaaa.PG Go.Proofs.Ytbebmbcjddibaaa.Gf Go.Proofs.Ytbebmbcjddibaaa.Gfi
/-- The first n bytes, laid from the top. -/
def blkN (f : Nat → B) : Nat → W
  | 0 => 0#128
  | i + 1 => blkN f i ||| ((f i).setWidth 128 <<< (120 - 8 * i))
def blkW (f : Nat → B) : W := blkN f 16
theorem part_hi : ∀ (i : Fin 8) (b : Fin 256), hi ((BitVec.ofFin b : B).setWidth 128 <<< (120 - 8 * i.1)) = (BitVec.ofFin b : B).setWidth 64 <<< (56 - 8 * i.1) ∧ lo ((BitVec.ofFin b : B).setWidth 128 <<< (120 - 8 * i.1)) = 0#64 := by decide +kernel
theorem part_lo : ∀ (i : Fin 8) (b : Fin 256), hi ((BitVec.ofFin b : B).setWidth 128 <<< (120 - 8 * (i.1 + 8))) = 0#64 ∧ lo ((BitVec.ofFin b : B).setWidth 128 <<< (120 - 8 * (i.1 + 8))) = (BitVec.ofFin b : B).setWidth 64 <<< (120 - 8 * (i.1 + 8)) := by decide +kernel
theorem hi_or (a b : W) : hi (a ||| b) = hi a ||| hi b := by
  apply BitVec.eq_of_getLsbD_eq
  intro j hj
  rw [hi_bit _ j hj, BitVec.getLsbD_or, BitVec.getLsbD_or, hi_bit _ j hj, hi_bit _ j hj]
theorem lo_or (a b : W) : lo (a ||| b) = lo a ||| lo b := by
  apply BitVec.eq_of_getLsbD_eq
  intro j hj
  rw [lo_bit _ j hj, BitVec.getLsbD_or, BitVec.getLsbD_or, lo_bit _ j hj, lo_bit _ j hj]
theorem blk_hi (f : Nat → B) (i : Nat) (h : i < 8) : hi (blkN f (i + 1)) = hi (blkN f i) ||| ((f i).setWidth 64 <<< (56 - 8 * i)) ∧ lo (blkN f (i + 1)) = lo (blkN f i) := by
  have p := part_hi ⟨i, h⟩ (f i).toFin
  show hi (blkN f i ||| ((f i).setWidth 128 <<< (120 - 8 * i))) = _ ∧ lo (blkN f i ||| ((f i).setWidth 128 <<< (120 - 8 * i))) = _
  rw [hi_or, lo_or]
  have e1 : hi ((f i).setWidth 128 <<< (120 - 8 * i)) = (f i).setWidth 64 <<< (56 - 8 * i) := p.1
  have e2 : lo ((f i).setWidth 128 <<< (120 - 8 * i)) = 0#64 := p.2
  rw [e1, e2, BitVec.or_zero]
  exact ⟨rfl, rfl⟩
theorem blk_lo (f : Nat → B) (i : Nat) (h : 8 ≤ i) (h2 : i < 16) : hi (blkN f (i + 1)) = hi (blkN f i) ∧ lo (blkN f (i + 1)) = lo (blkN f i) ||| ((f i).setWidth 64 <<< (120 - 8 * i)) := by
  obtain ⟨j, rfl⟩ : ∃ j, i = j + 8 := ⟨i - 8, by omega⟩
  have p := part_lo ⟨j, by omega⟩ (f (j + 8)).toFin
  show hi (blkN f (j + 8) ||| ((f (j + 8)).setWidth 128 <<< (120 - 8 * (j + 8)))) = _ ∧ lo (blkN f (j + 8) ||| ((f (j + 8)).setWidth 128 <<< (120 - 8 * (j + 8)))) = _
  rw [hi_or, lo_or]
  have e1 : hi ((f (j + 8)).setWidth 128 <<< (120 - 8 * (j + 8))) = 0#64 := p.1
  have e2 : lo ((f (j + 8)).setWidth 128 <<< (120 - 8 * (j + 8))) = (f (j + 8)).setWidth 64 <<< (120 - 8 * (j + 8)) := p.2
  rw [e1, e2, BitVec.or_zero]
  exact ⟨rfl, rfl⟩
theorem o64_byte (b : B) : o64 (b.setWidth 64) = ofB b := by
  unfold o64 ofB
  rw [BitVec.toNat_setWidth]
  have := b.isLt
  show ((b.toNat % 2 ^ 64 : Nat) : Int) = _
  rw [Nat.mod_eq_of_lt (by omega)]
theorem shl_byte (b : B) (y : Int) (n : Nat) (hy : y = (n : Int)) (hn : n ≤ 64) : shl .u64 (ofB b) y = o64 (b.setWidth 64 <<< n) := by
  subst hy
  have h := shl_small (k := .u64) (x := ofB b) (y := (n : Int)) rfl (by show (n : Int) ≤ 64; omega)
  rw [← h, Int.toNat_natCast, ← o64_byte, shl64]
theorem wrap_byte (b : B) : IntKind.u64.wrap (ofB b) = ofB b := by
  have := ofB_range b
  rw [w64]
  omega
theorem read_l0 (l : List Int) (f : Nat → B) (hf : ∀ i, i < 16 → l.getD i 0 = ofB (f i)) : ∀ (n i k : Nat), i + n = 16 → n < k → gcm_read.l0 k l (i : Int) (o64 (hi (blkN f i))) (o64 (lo (blkN f i))) = some (o64 (hi (blkW f)), o64 (lo (blkW f))) := by
  intro n
  induction n with
  | zero =>
    intro i k hi_ hk
    obtain rfl : i = 16 := by omega
    obtain ⟨k, rfl⟩ : ∃ m, k = m + 1 := ⟨k - 1, by omega⟩
    simp only [gcm_read.l0]
    rw [if_neg (by omega)]
    rfl
  | succ n ih =>
    intro i k hi_ hk
    obtain ⟨k, rfl⟩ : ∃ m, k = m + 1 := ⟨k - 1, by omega⟩
    have ihi := ih (i + 1) k (by omega) (by omega)
    have hw : wrap64 ((i : Int) + 1) = ((i + 1 : Nat) : Int) := by unfold wrap64; omega
    have hr : rd l (i : Int) = ofB (f i) := by
      rw [← hf i (by omega)]
      unfold rd
      rw [Int.toNat_natCast]
    have hz : ¬ (i : Int) < (l.length : Int) → (0 : Int) = ofB (f i) := fun h => by
      rw [← hf i (by omega), List.getD_eq_getElem?_getD, List.getElem?_eq_none (by omega)]; rfl
    have hb : ∀ c : Int, -1000 ≤ c ∧ c ≤ 1000 → wrap64 (c - wrap64 (8 * (i : Int))) = c - 8 * (i : Int) := fun c hc => by unfold wrap64; omega
    simp only [gcm_read.l0]
    rw [if_pos (by omega), hw, hb 56 (by omega), hb 120 (by omega), hr]
    by_cases h8 : i < 8
    · obtain ⟨e1, e2⟩ := blk_hi f i h8
      have hs := shl_byte (f i) (56 - 8 * (i : Int)) (56 - 8 * i) (by omega) (by omega)
      have h56 : (0 : Int) ≤ 56 - 8 * (i : Int) := by omega
      rw [e1, e2, ← (bits64 _ _).2.1, ← hs] at ihi
      by_cases hl : (i : Int) < (l.length : Int)
      · rw [if_pos hl, if_pos (by omega), if_pos (by omega), if_pos h56, wrap_byte]
        exact ihi
      · rw [if_neg hl, if_pos (by omega), if_pos h56, hz hl]
        exact ihi
    · obtain ⟨e1, e2⟩ := blk_lo f i (by omega) (by omega)
      have hs := shl_byte (f i) (120 - 8 * (i : Int)) (120 - 8 * i) (by omega) (by omega)
      have h120 : (0 : Int) ≤ 120 - 8 * (i : Int) := by omega
      rw [e1, e2, ← (bits64 _ _).2.1, ← hs] at ihi
      by_cases hl : (i : Int) < (l.length : Int)
      · rw [if_pos hl, if_pos (by omega), if_neg (by omega), if_pos h120, wrap_byte]
        exact ihi
      · rw [if_neg hl, if_neg (by omega), if_pos h120, hz hl]
        exact ihi
theorem read_f (l : List Int) (f : Nat → B) (hf : ∀ i, i < 16 → l.getD i 0 = ofB (f i)) : gcm_read.f 40 l = some (o64 (hi (blkW f)), o64 (lo (blkW f))) := by
  have h := read_l0 l f hf 16 0 40 (by omega) (by omega)
  unfold gcm_read.f
  have e4 : o64 (hi (blkN f 0)) = 0 := (by decide : o64 (hi 0#128) = 0)
  have e5 : o64 (lo (blkN f 0)) = 0 := (by decide : o64 (lo 0#128) = 0)
  rw [e4, e5] at h
  exact h
end Go.Proofs.Ytbebmbcjddibaaa.Lng
