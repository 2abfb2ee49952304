/- What is said here: a key made ready is two functions on blocks that undo one another; the document's are the same; the anchor works. -/
import Derived.Test.YtfbhbkcjnbpnlaaAesWk
import Derived.Test.YtfbhbkcjnbpnlaaAesV
namespace Go.Proofs.Ytfbhbkcjnbpnlaa.Aes
set_option linter.unusedVariables false
set_option linter.unusedSimpArgs false
open Go.RowKit
open Gf Gfi Poly AesF
/-- The cells K of a ready key encrypt by E and decrypt by D. -/
structure Cipher (K : Nat → B) (E D : (Nat → B) → Nat → B) : Prop where
  block : ∀ (b : Nat → B) (w : World), Calls Try.prog 10 #[.agg (cB 752 K), .agg (cB 16 b)] w fun e w' => e = .returned (.agg (cB 16 (E b))) ∧ Below w.heap.size w w'
  back : ∀ (b : Nat → B) (w : World), Calls Try.prog 12 #[.agg (cB 752 K), .agg (cB 16 b)] w fun e w' => e = .returned (.agg (cB 16 (D b))) ∧ Below w.heap.size w w'
  de : ∀ b, Eq16 (D (E b)) b
  ed : ∀ b, Eq16 (E (D b)) b
  ec : ∀ {f g : Nat → B}, Eq16 f g → Eq16 (E f) (E g)
  dc : ∀ {f g : Nat → B}, Eq16 f g → Eq16 (D f) (D g)
/-- So does the document's. -/
structure Same (K : Nat → B) (E D : (Nat → B) → Nat → B) : Prop where
  block : ∀ (b : Nat → B) (w : World), Calls Try.prog 11 #[.agg (cB 752 K), .agg (cB 16 b)] w fun e w' => e = .returned (.agg (cB 16 (E b))) ∧ Below w.heap.size w w'
  back : ∀ (b : Nat → B) (w : World), Calls Try.prog 13 #[.agg (cB 752 K), .agg (cB 16 b)] w fun e w' => e = .returned (.agg (cB 16 (D b))) ∧ Below w.heap.size w w'
def encB (K : Nat → B) (b : Nat → B) : Nat → B := bl K b 14
def decB (K : Nat → B) (b : Nat → B) : Nat → B := addS K 0 (bk K b 14)
theorem cipher (key : Nat → B) : Cipher (keyK key) (encB (keyK key)) (decB (keyK key)) where
  block := fun b w => block_calls (keyK key) b w
  back := fun b w => unblock_calls (keyK key) b w
  de := fun b => back_block (keyK_ready key) b
  ed := fun b => block_back (keyK_ready key) b
  ec := fun h => bl_c h 14
  dc := fun h => add_c 0 (bk_c h 14)
theorem same (key : Nat → B) : Same (keyK key) (encB (keyK key)) (decB (keyK key)) where
  block := fun b w => by
    have h := rblock_calls (keyK key) b w
    rw [rbl_eq _ _ _ (Nat.le_refl _)] at h
    exact h
  back := fun b w => by
    have h := rback_calls (keyK key) b w
    rw [rbk_eq] at h
    exact h
/-- A key is opened: what is told of it is all that is used. -/
theorem open_key (key : Nat → B) : ∃ K E D, Cipher K E D ∧ Same K E D
    ∧ (∀ w : World, Calls Try.prog 8 #[.agg (cB 32 key)] w fun e w' => e = .returned (.agg (cB 752 K)) ∧ Below w.heap.size w w')
    ∧ (∀ w : World, Calls Try.prog 9 #[.agg (cB 32 key)] w fun e w' => e = .returned (.agg (cB 752 K)) ∧ Below w.heap.size w w') :=
  ⟨_, _, _, cipher key, same key, expand_calls key, rexpand_calls key⟩
theorem works (w : World) : Calls Try.prog 14 #[] w fun e w' => e = .returned (.bool true) ∧ Below w.heap.size w w' := works_of zero_run w
theorem open_known : ∃ K E D, Cipher K E D ∧ Eq16 (E kblk) kwant
    ∧ (∀ w : World, Calls Try.prog 8 #[.agg (cB 32 kkey)] w fun e w' => e = .returned (.agg (cB 752 K)) ∧ Below w.heap.size w w') :=
  ⟨_, _, _, cipher kkey, known_run, expand_calls kkey⟩
theorem Cipher.same_iff {K : Nat → B} {E D : (Nat → B) → Nat → B} (h : Cipher K E D) (a b : Nat → B) : eq16 (E a) (E b) = eq16 a b := by
  rw [Bool.eq_iff_iff, eq16_iff, eq16_iff]
  exact ⟨fun h2 => ((h.de a).symm.trans (h.dc h2)).trans (h.de b), fun h2 => h.ec h2⟩
theorem Cipher.back_iff {K : Nat → B} {E D : (Nat → B) → Nat → B} (h : Cipher K E D) (a b : Nat → B) : eq16 (D a) (D b) = eq16 a b := by
  rw [Bool.eq_iff_iff, eq16_iff, eq16_iff]
  exact ⟨fun h2 => ((h.ed a).symm.trans (h.ec h2)).trans (h.ed b), fun h2 => h.dc h2⟩
end Go.Proofs.Ytfbhbkcjnbpnlaa.Aes
