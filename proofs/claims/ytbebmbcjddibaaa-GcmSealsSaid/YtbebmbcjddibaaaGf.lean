/- What is said here: what AES computes, in plain words: the program's rounds and the document's are the same; each round is undone by its own undoing. -/
import Derived.Test.YtbebmbcjddibaaaGe
namespace Go.Proofs.Ytbebmbcjddibaaa.Aes
open Gf Gfi Poly AesF
def unroundS (K : Nat → B) (r : Nat) (st : Nat → B) : Nat → B := backS K (unshiftS (unmixR r (addS K r st)))
def bk (K b : Nat → B) : Nat → Nat → B
  | 0 => b
  | q + 1 => unroundS K (14 - q) (bk K b q)
end Go.Proofs.Ytbebmbcjddibaaa.Aes
namespace Go.Proofs.Ytbebmbcjddibaaa.Aes
set_option linter.unusedVariables false
set_option linter.unusedSimpArgs false
open Gf Gfi Poly AesF
/-- The same in the first sixteen places. -/
def Eq16 (f g : Nat → B) : Prop := ∀ i, i < 16 → f i = g i
theorem Eq16.symm {f g : Nat → B} (h : Eq16 f g) : Eq16 g f := fun i hi => (h i hi).symm
theorem Eq16.trans {f g k : Nat → B} (h : Eq16 f g) (h2 : Eq16 g k) : Eq16 f k := fun i hi => (h i hi).trans (h2 i hi)
theorem Eq16.rfl' (f : Nat → B) : Eq16 f f := fun _ _ => rfl
variable {K f g : Nat → B}
theorem add_c (r : Nat) (h : Eq16 f g) : Eq16 (addS K r f) (addS K r g) := fun i hi => by unfold addS; rw [h i hi]
theorem swap_c (h : Eq16 f g) : Eq16 (swapS K f) (swapS K g) := fun i hi => by unfold swapS; rw [h i hi]
theorem back_c (h : Eq16 f g) : Eq16 (backS K f) (backS K g) := fun i hi => by unfold backS; rw [h i hi]
theorem shift_c (h : Eq16 f g) : Eq16 (shiftS f) (shiftS g) := fun i hi => by unfold shiftS; exact h _ (by omega)
theorem unshift_c (h : Eq16 f g) : Eq16 (unshiftS f) (unshiftS g) := fun i hi => by unfold unshiftS; exact h _ (by omega)
theorem mix_c (h : Eq16 f g) : Eq16 (mixS f) (mixS g) := fun i hi => by
  unfold mixS
  rw [h i hi, h (i / 4 * 4) (by omega), h (i / 4 * 4 + 1) (by omega), h (i / 4 * 4 + 2) (by omega), h (i / 4 * 4 + 3) (by omega), h (i / 4 * 4 + (i + 1) % 4) (by omega)]
theorem mixR_c (r : Nat) (h : Eq16 f g) : Eq16 (mixR r f) (mixR r g) := by
  unfold mixR
  by_cases e : r = 14
  · rw [if_pos e, if_pos e]; exact h
  · rw [if_neg e, if_neg e]; exact mix_c h
theorem round_c (r : Nat) (h : Eq16 f g) : Eq16 (roundS K r f) (roundS K r g) := add_c r (mixR_c r (shift_c (swap_c h)))
theorem unround_c (r : Nat) (h : Eq16 f g) : Eq16 (unroundS K r f) (unroundS K r g) := back_c (unshift_c (mixR_c r (mixR_c r (mixR_c r (add_c r h)))))
theorem bl_c (h : Eq16 f g) (n : Nat) : Eq16 (bl K f n) (bl K g n) := by
  induction n with
  | zero => exact add_c 0 h
  | succ n ih => exact round_c _ ih
theorem bk_c (h : Eq16 f g) (n : Nat) : Eq16 (bk K f n) (bk K g n) := by
  induction n with
  | zero => exact h
  | succ n ih => exact unround_c _ ih
-- mixing
theorem xx (x y : B) : x ^^^ (x ^^^ y) = y := by rw [← BitVec.xor_assoc, BitVec.xor_self, BitVec.zero_xor]
theorem xlc (x y z : B) : x ^^^ (y ^^^ z) = y ^^^ (x ^^^ z) := by rw [← BitVec.xor_assoc, BitVec.xor_comm x y, BitVec.xor_assoc]
theorem xt0 : xt 0#8 = 0#8 := by decide
theorem mix0 (st : Nat → B) (c : Nat) : mixS st (4 * c) = st (4 * c) ^^^ ((((st (4 * c) ^^^ st (4 * c + 1)) ^^^ st (4 * c + 2)) ^^^ st (4 * c + 3)) ^^^ xt (st (4 * c) ^^^ st (4 * c + 1))) := by
  unfold mixS
  rw [show 4 * c / 4 * 4 = 4 * c by omega, show (4 * c + 1) % 4 = 1 by omega]
theorem mix1 (st : Nat → B) (c : Nat) : mixS st (4 * c + 1) = st (4 * c + 1) ^^^ ((((st (4 * c) ^^^ st (4 * c + 1)) ^^^ st (4 * c + 2)) ^^^ st (4 * c + 3)) ^^^ xt (st (4 * c + 1) ^^^ st (4 * c + 2))) := by
  unfold mixS
  rw [show (4 * c + 1) / 4 * 4 = 4 * c by omega, show (4 * c + 1 + 1) % 4 = 2 by omega]
theorem mix2 (st : Nat → B) (c : Nat) : mixS st (4 * c + 2) = st (4 * c + 2) ^^^ ((((st (4 * c) ^^^ st (4 * c + 1)) ^^^ st (4 * c + 2)) ^^^ st (4 * c + 3)) ^^^ xt (st (4 * c + 2) ^^^ st (4 * c + 3))) := by
  unfold mixS
  rw [show (4 * c + 2) / 4 * 4 = 4 * c by omega, show (4 * c + 2 + 1) % 4 = 3 by omega]
theorem mix3 (st : Nat → B) (c : Nat) : mixS st (4 * c + 3) = st (4 * c + 3) ^^^ ((((st (4 * c) ^^^ st (4 * c + 1)) ^^^ st (4 * c + 2)) ^^^ st (4 * c + 3)) ^^^ xt (st (4 * c + 3) ^^^ st (4 * c))) := by
  unfold mixS
  rw [show (4 * c + 3) / 4 * 4 = 4 * c by omega, show (4 * c + 3 + 1) % 4 = 0 by omega]
  rfl
set_option maxHeartbeats 4000000 in
/-- Mixed twice. -/
theorem twice0 (st : Nat → B) (c : Nat) : mixS (mixS st) (4 * c) = st (4 * c) ^^^ xt (xt (st (4 * c) ^^^ st (4 * c + 2))) := by
  rw [mix0, mix0, mix1, mix2, mix3]
  simp only [xt_xor]
  generalize st (4 * c) = a0
  generalize st (4 * c + 1) = a1
  generalize st (4 * c + 2) = a2
  generalize st (4 * c + 3) = a3
  simp only [BitVec.xor_assoc, BitVec.xor_comm, xlc, BitVec.xor_self, xx, BitVec.xor_zero, BitVec.zero_xor]
set_option maxHeartbeats 4000000 in
theorem twice1 (st : Nat → B) (c : Nat) : mixS (mixS st) (4 * c + 1) = st (4 * c + 1) ^^^ xt (xt (st (4 * c + 1) ^^^ st (4 * c + 3))) := by
  rw [mix1, mix0, mix1, mix2, mix3]
  simp only [xt_xor]
  generalize st (4 * c) = a0
  generalize st (4 * c + 1) = a1
  generalize st (4 * c + 2) = a2
  generalize st (4 * c + 3) = a3
  simp only [BitVec.xor_assoc, BitVec.xor_comm, xlc, BitVec.xor_self, xx, BitVec.xor_zero, BitVec.zero_xor]
set_option maxHeartbeats 4000000 in
theorem twice2 (st : Nat → B) (c : Nat) : mixS (mixS st) (4 * c + 2) = st (4 * c + 2) ^^^ xt (xt (st (4 * c + 2) ^^^ st (4 * c))) := by
  rw [mix2, mix0, mix1, mix2, mix3]
  simp only [xt_xor]
  generalize st (4 * c) = a0
  generalize st (4 * c + 1) = a1
  generalize st (4 * c + 2) = a2
  generalize st (4 * c + 3) = a3
  simp only [BitVec.xor_assoc, BitVec.xor_comm, xlc, BitVec.xor_self, xx, BitVec.xor_zero, BitVec.zero_xor]
set_option maxHeartbeats 4000000 in
theorem twice3 (st : Nat → B) (c : Nat) : mixS (mixS st) (4 * c + 3) = st (4 * c + 3) ^^^ xt (xt (st (4 * c + 3) ^^^ st (4 * c + 1))) := by
  rw [mix3, mix0, mix1, mix2, mix3]
  simp only [xt_xor]
  generalize st (4 * c) = a0
  generalize st (4 * c + 1) = a1
  generalize st (4 * c + 2) = a2
  generalize st (4 * c + 3) = a3
  simp only [BitVec.xor_assoc, BitVec.xor_comm, xlc, BitVec.xor_self, xx, BitVec.xor_zero, BitVec.zero_xor]
set_option maxHeartbeats 4000000 in
/-- Four times mixed is what there was. -/
theorem mix_four (st : Nat → B) : mixS (mixS (mixS (mixS st))) = st := by
  funext i
  have hc : i = 4 * (i / 4) ∨ i = 4 * (i / 4) + 1 ∨ i = 4 * (i / 4) + 2 ∨ i = 4 * (i / 4) + 3 := by omega
  generalize i / 4 = c at hc
  rcases hc with rfl | rfl | rfl | rfl
  · rw [twice0, twice0, twice2]
    simp only [xt_xor]
    simp only [BitVec.xor_assoc, BitVec.xor_comm, xlc, BitVec.xor_self, xx, BitVec.xor_zero, BitVec.zero_xor]
  · rw [twice1, twice1, twice3]
    simp only [xt_xor]
    simp only [BitVec.xor_assoc, BitVec.xor_comm, xlc, BitVec.xor_self, xx, BitVec.xor_zero, BitVec.zero_xor]
  · rw [twice2, twice0, twice2]
    simp only [xt_xor]
    simp only [BitVec.xor_assoc, BitVec.xor_comm, xlc, BitVec.xor_self, xx, BitVec.xor_zero, BitVec.zero_xor]
  · rw [twice3, twice1, twice3]
    simp only [xt_xor]
    simp only [BitVec.xor_assoc, BitVec.xor_comm, xlc, BitVec.xor_self, xx, BitVec.xor_zero, BitVec.zero_xor]
theorem mixR_un (r : Nat) (st : Nat → B) : mixR r (unmixR r st) = st := by
  unfold unmixR mixR
  by_cases e : r = 14
  · simp only [if_pos e]
  · simp only [if_neg e]; exact mix_four st
theorem unmixR_mix (r : Nat) (st : Nat → B) : unmixR r (mixR r st) = st := by
  unfold unmixR mixR
  by_cases e : r = 14
  · simp only [if_pos e]
  · simp only [if_neg e]; exact mix_four st
-- the document's mixing
theorem m1 (x : B) : mul 1#8 x = x := by rw [mul_comm, mul_one]
theorem m2 (x : B) : mul 2#8 x = xt x := all_bits (P := fun x => mul 2#8 x = xt x) (by decide +kernel) x
theorem m3 (x : B) : mul 3#8 x = xt x ^^^ x := all_bits (P := fun x => mul 3#8 x = xt x ^^^ x) (by decide +kernel) x
theorem m9 (x : B) : mul 9#8 x = xt (xt (xt x)) ^^^ x := all_bits (P := fun x => mul 9#8 x = xt (xt (xt x)) ^^^ x) (by decide +kernel) x
theorem m11 (x : B) : mul 11#8 x = xt (xt (xt x)) ^^^ xt x ^^^ x := all_bits (P := fun x => mul 11#8 x = xt (xt (xt x)) ^^^ xt x ^^^ x) (by decide +kernel) x
theorem m13 (x : B) : mul 13#8 x = xt (xt (xt x)) ^^^ xt (xt x) ^^^ x := all_bits (P := fun x => mul 13#8 x = xt (xt (xt x)) ^^^ xt (xt x) ^^^ x) (by decide +kernel) x
theorem m14 (x : B) : mul 14#8 x = xt (xt (xt x)) ^^^ xt (xt x) ^^^ xt x := all_bits (P := fun x => mul 14#8 x = xt (xt (xt x)) ^^^ xt (xt x) ^^^ xt x) (by decide +kernel) x
theorem mxS_at (f b : Nat → B) (c r : Nat) (hr : r < 4) : mxS f b (4 * c + r) = (((0#8 ^^^ mul (f ((0 + 4 - r) % 4)) (b (4 * c + 0))) ^^^ mul (f ((1 + 4 - r) % 4)) (b (4 * c + 1))) ^^^ mul (f ((2 + 4 - r) % 4)) (b (4 * c + 2))) ^^^ mul (f ((3 + 4 - r) % 4)) (b (4 * c + 3)) := by
  have e1 : (4 * c + r) % 4 = r := by omega
  have e2 : (4 * c + r) / 4 * 4 = 4 * c := by omega
  unfold mxS
  simp only [pt, e1, e2]
set_option maxHeartbeats 4000000 in
theorem mx_fwd (b : Nat → B) : mxS f2311 b = mixS b := by
  funext i
  have hc : i = 4 * (i / 4) + 0 ∨ i = 4 * (i / 4) + 1 ∨ i = 4 * (i / 4) + 2 ∨ i = 4 * (i / 4) + 3 := by omega
  generalize i / 4 = c at hc
  rcases hc with rfl | rfl | rfl | rfl
  · show mxS f2311 b (4 * c + 0) = mixS b (4 * c)
    rw [mxS_at _ _ _ _ (by decide), mix0]
    show (((0#8 ^^^ mul 2#8 (b (4 * c))) ^^^ mul 3#8 (b (4 * c + 1))) ^^^ mul 1#8 (b (4 * c + 2))) ^^^ mul 1#8 (b (4 * c + 3)) = _
    rw [m2, m3, m1, m1]
    show _ = _
    simp only [xt_xor]
    simp only [BitVec.xor_assoc, BitVec.xor_comm, xlc, BitVec.xor_self, xx, BitVec.xor_zero, BitVec.zero_xor]
  · rw [mxS_at _ _ _ _ (by decide), mix1]
    show (((0#8 ^^^ mul 1#8 (b (4 * c))) ^^^ mul 2#8 (b (4 * c + 1))) ^^^ mul 3#8 (b (4 * c + 2))) ^^^ mul 1#8 (b (4 * c + 3)) = _
    rw [m2, m3, m1, m1]
    show _ = _
    simp only [xt_xor]
    simp only [BitVec.xor_assoc, BitVec.xor_comm, xlc, BitVec.xor_self, xx, BitVec.xor_zero, BitVec.zero_xor]
  · rw [mxS_at _ _ _ _ (by decide), mix2]
    show (((0#8 ^^^ mul 1#8 (b (4 * c))) ^^^ mul 1#8 (b (4 * c + 1))) ^^^ mul 2#8 (b (4 * c + 2))) ^^^ mul 3#8 (b (4 * c + 3)) = _
    rw [m2, m3, m1, m1]
    show _ = _
    simp only [xt_xor]
    simp only [BitVec.xor_assoc, BitVec.xor_comm, xlc, BitVec.xor_self, xx, BitVec.xor_zero, BitVec.zero_xor]
  · rw [mxS_at _ _ _ _ (by decide), mix3]
    show (((0#8 ^^^ mul 3#8 (b (4 * c))) ^^^ mul 1#8 (b (4 * c + 1))) ^^^ mul 1#8 (b (4 * c + 2))) ^^^ mul 2#8 (b (4 * c + 3)) = _
    rw [m2, m3, m1, m1]
    show _ = _
    simp only [xt_xor]
    simp only [BitVec.xor_assoc, BitVec.xor_comm, xlc, BitVec.xor_self, xx, BitVec.xor_zero, BitVec.zero_xor]
set_option maxHeartbeats 4000000 in
theorem mx_bwd (b : Nat → B) : mxS fback b = mixS (mixS (mixS b)) := by
  funext i
  have hc : i = 4 * (i / 4) + 0 ∨ i = 4 * (i / 4) + 1 ∨ i = 4 * (i / 4) + 2 ∨ i = 4 * (i / 4) + 3 := by omega
  generalize i / 4 = c at hc
  rcases hc with rfl | rfl | rfl | rfl
  · show mxS fback b (4 * c + 0) = mixS (mixS (mixS b)) (4 * c)
    rw [mxS_at _ _ _ _ (by decide), twice0, mix0, mix2]
    show (((0#8 ^^^ mul 14#8 (b (4 * c))) ^^^ mul 11#8 (b (4 * c + 1))) ^^^ mul 13#8 (b (4 * c + 2))) ^^^ mul 9#8 (b (4 * c + 3)) = _
    rw [m14, m11, m13, m9]
    simp only [xt_xor]
    simp only [BitVec.xor_assoc, BitVec.xor_comm, xlc, BitVec.xor_self, xx, BitVec.xor_zero, BitVec.zero_xor]
  · rw [mxS_at _ _ _ _ (by decide), twice1, mix1, mix3]
    show (((0#8 ^^^ mul 9#8 (b (4 * c))) ^^^ mul 14#8 (b (4 * c + 1))) ^^^ mul 11#8 (b (4 * c + 2))) ^^^ mul 13#8 (b (4 * c + 3)) = _
    rw [m14, m11, m13, m9]
    simp only [xt_xor]
    simp only [BitVec.xor_assoc, BitVec.xor_comm, xlc, BitVec.xor_self, xx, BitVec.xor_zero, BitVec.zero_xor]
  · rw [mxS_at _ _ _ _ (by decide), twice2, mix2, mix0]
    show (((0#8 ^^^ mul 13#8 (b (4 * c))) ^^^ mul 9#8 (b (4 * c + 1))) ^^^ mul 14#8 (b (4 * c + 2))) ^^^ mul 11#8 (b (4 * c + 3)) = _
    rw [m14, m11, m13, m9]
    simp only [xt_xor]
    simp only [BitVec.xor_assoc, BitVec.xor_comm, xlc, BitVec.xor_self, xx, BitVec.xor_zero, BitVec.zero_xor]
  · rw [mxS_at _ _ _ _ (by decide), twice3, mix3, mix1]
    show (((0#8 ^^^ mul 11#8 (b (4 * c))) ^^^ mul 13#8 (b (4 * c + 1))) ^^^ mul 9#8 (b (4 * c + 2))) ^^^ mul 14#8 (b (4 * c + 3)) = _
    rw [m14, m11, m13, m9]
    simp only [xt_xor]
    simp only [BitVec.xor_assoc, BitVec.xor_comm, xlc, BitVec.xor_self, xx, BitVec.xor_zero, BitVec.zero_xor]
theorem rround_eq (r : Nat) (h : r ≤ 14) (st : Nat → B) : rround K r st = roundS K r st := by
  unfold rround roundS mixR
  by_cases e : r < 14
  · rw [if_pos e, if_neg (by omega), mx_fwd]
  · rw [if_neg e, if_pos (by omega)]
theorem runround_eq (r : Nat) (h : r ≤ 14) (st : Nat → B) : runround K r st = unroundS K r st := by
  unfold runround unroundS unmixR mixR
  by_cases e : r < 14
  · have e2 : ¬ r = 14 := by omega
    rw [if_pos e, mx_bwd]
    simp only [if_neg e2]
    rfl
  · have e2 : r = 14 := by omega
    rw [if_neg e]
    simp only [if_pos e2]
    rfl
theorem rbl_eq (K b : Nat → B) (n : Nat) (h : n ≤ 14) : rbl K b n = bl K b n := by
  induction n with
  | zero => rfl
  | succ n ih =>
    show rround K (n + 1) (rbl K b n) = roundS K (n + 1) (bl K b n)
    rw [ih (by omega), rround_eq _ h]
theorem rbk_eq (K b : Nat → B) (n : Nat) : rbk K b n = bk K b n := by
  induction n with
  | zero => rfl
  | succ n ih =>
    show runround K (14 - n) (rbk K b n) = unroundS K (14 - n) (bk K b n)
    rw [ih, runround_eq _ (by omega)]
-- sub, and what undoes it
def unsbox (z : B) : B := ((rot z 1 ^^^ rot z 3) ^^^ rot z 6) ^^^ 0x05#8
theorem unsbox_sbox (y : B) : unsbox (sbox y) = y := all_bits (P := fun y => unsbox (sbox y) = y) (by decide +kernel) y
theorem sbox_unsbox (y : B) : sbox (unsbox y) = y := all_bits (P := fun y => sbox (unsbox y) = y) (by decide +kernel) y
theorem sb_inj {x y : B} (h : sb x = sb y) : x = y := by
  unfold sb at h
  have h2 := congrArg unsbox h
  rw [unsbox_sbox, unsbox_sbox] at h2
  rw [← inv_inv x, h2, inv_inv]
theorem sb_surj (y : B) : sb (inv (unsbox y)) = y := by
  unfold sb
  rw [inv_inv, sbox_unsbox]
theorem sub_at (x : B) : ∀ n, n ≤ 256 → subN n x.toNat = if x.toNat < n then sb x else 0#8 := by
  intro n
  induction n with
  | zero => intro _; rw [if_neg (by omega)]; rfl
  | succ n ih =>
    intro h
    show (if x.toNat = n then sb (BitVec.ofNat 8 n) else subN n x.toNat) = _
    by_cases e : x.toNat = n
    · rw [if_pos e, if_pos (by omega), ← e, BitVec.ofNat_toNat, BitVec.setWidth_eq]
    · rw [if_neg e, ih (by omega)]
      by_cases e2 : x.toNat < n
      · rw [if_pos e2, if_pos (by omega)]
      · rw [if_neg e2, if_neg (by omega)]
theorem undo_at (x : B) : ∀ n, n ≤ 256 → undoN n (sb x).toNat = if x.toNat < n then x else 0#8 := by
  intro n
  induction n with
  | zero => intro _; rw [if_neg (by omega)]; rfl
  | succ n ih =>
    intro h
    show (if (sb x).toNat = (sb (BitVec.ofNat 8 n)).toNat then BitVec.ofNat 8 n else undoN n (sb x).toNat) = _
    by_cases e : x.toNat = n
    · have e1 : BitVec.ofNat 8 n = x := by rw [← e, BitVec.ofNat_toNat, BitVec.setWidth_eq]
      rw [e1, if_pos rfl, if_pos (by omega)]
    · have e3 : ¬ (sb x).toNat = (sb (BitVec.ofNat 8 n)).toNat := fun h2 => e (by
        have h3 := sb_inj (BitVec.eq_of_toNat_eq h2)
        rw [h3, BitVec.toNat_ofNat]; omega)
      rw [if_neg e3, ih (by omega)]
      by_cases e2 : x.toNat < n
      · rw [if_pos e2, if_pos (by omega)]
      · rw [if_neg e2, if_neg (by omega)]
theorem subN_at (x : B) : subN 256 x.toNat = sb x := by rw [sub_at x 256 (Nat.le_refl _), if_pos x.isLt]
theorem undoN_at (x : B) : undoN 256 (sb x).toNat = x := by rw [undo_at x 256 (Nat.le_refl _), if_pos x.isLt]
/-- A key whose two tables are sub and what undoes it. -/
structure Ready (K : Nat → B) : Prop where
  sub : ∀ x : B, K (240 + x.toNat) = sb x
  undo : ∀ x : B, K (496 + (sb x).toNat) = x
theorem keyK_ready (key : Nat → B) : Ready (keyK key) where
  sub := fun x => by
    have := x.isLt
    unfold keyK blend
    rw [if_neg (by omega), key2_sub _ x.isLt, subN_at]
  undo := fun x => by
    have := (sb x).isLt
    unfold keyK key2 blend
    rw [if_neg (by omega), if_pos (by omega), Nat.add_sub_cancel_left, undoN_at]
theorem back_swap (h : Ready K) (st : Nat → B) : backS K (swapS K st) = st := by
  funext i
  show K (496 + (K (240 + (st i).toNat)).toNat) = st i
  rw [h.sub, h.undo]
theorem swap_back (h : Ready K) (st : Nat → B) : swapS K (backS K st) = st := by
  funext i
  show K (240 + (K (496 + (st i).toNat)).toNat) = st i
  obtain ⟨x, hx⟩ : ∃ x, st i = sb x := ⟨_, (sb_surj (st i)).symm⟩
  rw [hx, h.undo, h.sub]
theorem add_add (r : Nat) (st : Nat → B) : addS K r (addS K r st) = st := by
  funext i
  show (st i ^^^ K (16 * r + i)) ^^^ K (16 * r + i) = st i
  rw [BitVec.xor_assoc, BitVec.xor_self, BitVec.xor_zero]
theorem unshift_shift (st : Nat → B) : Eq16 (unshiftS (shiftS st)) st := fun i hi => by
  have h : ((i + 12 * (i % 4)) % 16 + 4 * ((i + 12 * (i % 4)) % 16 % 4)) % 16 = i := sg_sgi i hi
  show st (((i + 12 * (i % 4)) % 16 + 4 * ((i + 12 * (i % 4)) % 16 % 4)) % 16) = st i
  rw [h]
theorem shift_unshift (st : Nat → B) : Eq16 (shiftS (unshiftS st)) st := fun i hi => (un_val st i hi).symm
theorem unround_round (h : Ready K) (r : Nat) (st : Nat → B) : Eq16 (unroundS K r (roundS K r st)) st := by
  unfold unroundS roundS
  rw [add_add, unmixR_mix]
  have := back_c (K := K) (unshift_shift (swapS K st))
  rw [back_swap h] at this
  exact this
theorem round_unround (h : Ready K) (r : Nat) (st : Nat → B) : Eq16 (roundS K r (unroundS K r st)) st := by
  unfold unroundS roundS
  rw [swap_back h]
  have := add_c (K := K) r (mixR_c r (shift_unshift (unmixR r (addS K r st))))
  rw [mixR_un, add_add] at this
  exact this
theorem bk_bl (h : Ready K) (b : Nat → B) : ∀ n, n ≤ 14 → Eq16 (bk K (bl K b 14) n) (bl K b (14 - n)) := by
  intro n
  induction n with
  | zero => intro _; exact Eq16.rfl' _
  | succ n ih =>
    intro hn
    obtain ⟨m, hm⟩ : ∃ m, 14 - n = m + 1 := ⟨14 - n - 1, by omega⟩
    have h1 := ih (by omega)
    show Eq16 (unroundS K (14 - n) (bk K (bl K b 14) n)) _
    rw [hm] at h1 ⊢
    rw [show 14 - (n + 1) = m by omega]
    exact (unround_c (m + 1) h1).trans (unround_round h (m + 1) (bl K b m))
/-- Back of Block. -/
theorem back_block (h : Ready K) (b : Nat → B) : Eq16 (addS K 0 (bk K (bl K b 14) 14)) b := by
  have := add_c (K := K) 0 (bk_bl h b 14 (Nat.le_refl _))
  have e : addS K 0 (bl K b (14 - 14)) = b := add_add 0 b
  rw [e] at this
  exact this
theorem bl_bk (h : Ready K) (b : Nat → B) : ∀ n, n ≤ 14 → Eq16 (bl K (addS K 0 (bk K b 14)) n) (bk K b (14 - n)) := by
  intro n
  induction n with
  | zero =>
    intro _
    show Eq16 (addS K 0 (addS K 0 (bk K b 14))) _
    rw [add_add]
    exact Eq16.rfl' _
  | succ n ih =>
    intro hn
    obtain ⟨m, hm⟩ : ∃ m, 14 - n = m + 1 := ⟨14 - n - 1, by omega⟩
    have h1 := ih (by omega)
    show Eq16 (roundS K (n + 1) (bl K (addS K 0 (bk K b 14)) n)) _
    rw [hm] at h1
    rw [show 14 - (n + 1) = m by omega]
    have e : bk K b (m + 1) = unroundS K (n + 1) (bk K b m) := by
      show unroundS K (14 - m) (bk K b m) = _
      rw [show 14 - m = n + 1 by omega]
    rw [e] at h1
    exact (round_c (n + 1) h1).trans (round_unround h (n + 1) (bk K b m))
/-- Block of Back. -/
theorem block_back (h : Ready K) (b : Nat → B) : Eq16 (bl K (addS K 0 (bk K b 14)) 14) b := bl_bk h b 14 (Nat.le_refl _)
end Go.Proofs.Ytbebmbcjddibaaa.Aes
