/- What is said here: two known blocks under the key of noughts, by tables that are checked place by place; the known tag, and another one. -/
import Derived.Test.YtbebmbcjddibaaaGg
import Derived.Test.YtbebmbcjddibaaaGw
namespace Go.Proofs.Ytbebmbcjddibaaa.Aes
set_option linter.unusedVariables false
set_option linter.unusedSimpArgs false
open Gf Gfi Poly AesF
def sL : List Nat := [99, 124, 119, 123, 242, 107, 111, 197, 48, 1, 103, 43, 254, 215, 171, 118, 202, 130, 201, 125, 250, 89, 71, 240, 173, 212, 162, 175, 156, 164, 114, 192, 183, 253, 147, 38, 54, 63, 247, 204, 52, 165, 229, 241, 113, 216, 49, 21, 4, 199, 35, 195, 24, 150, 5, 154, 7, 18, 128, 226, 235, 39, 178, 117, 9, 131, 44, 26, 27, 110, 90, 160, 82, 59, 214, 179, 41, 227, 47, 132, 83, 209, 0, 237, 32, 252, 177, 91, 106, 203, 190, 57, 74, 76, 88, 207, 208, 239, 170, 251, 67, 77, 51, 133, 69, 249, 2, 127, 80, 60, 159, 168, 81, 163, 64, 143, 146, 157, 56, 245, 188, 182, 218, 33, 16, 255, 243, 210, 205, 12, 19, 236, 95, 151, 68, 23, 196, 167, 126, 61, 100, 93, 25, 115, 96, 129, 79, 220, 34, 42, 144, 136, 70, 238, 184, 20, 222, 94, 11, 219, 224, 50, 58, 10, 73, 6, 36, 92, 194, 211, 172, 98, 145, 149, 228, 121, 231, 200, 55, 109, 141, 213, 78, 169, 108, 86, 244, 234, 101, 122, 174, 8, 186, 120, 37, 46, 28, 166, 180, 198, 232, 221, 116, 31, 75, 189, 139, 138, 112, 62, 181, 102, 72, 3, 246, 14, 97, 53, 87, 185, 134, 193, 29, 158, 225, 248, 152, 17, 105, 217, 142, 148, 155, 30, 135, 233, 206, 85, 40, 223, 140, 161, 137, 13, 191, 230, 66, 104, 65, 153, 45, 15, 176, 84, 187, 22]
def stab (n : Nat) : B := BitVec.ofNat 8 (sL.getD n 0)
theorem sb_tab (x : B) : sb x = stab x.toNat := all_bits (P := fun x => sb x = stab x.toNat) (by decide +kernel) x
def tab (L : List Nat) (p : Nat) : B := BitVec.ofNat 8 (L.getD p 0)
def check1 (key : Nat → B) (L : List Nat) : Bool := (List.range 240).all fun p => if p / 4 < 8 then key p == tab L p else tab L p == tab L (p - 32) ^^^ tw stab (fac (p / 4 / 8 - 1)) (p / 4) (tab L) (p % 4)
def roundT (L : List Nat) (r : Nat) (st : Nat → B) : Nat → B := fun i => mixR r (shiftS (fun i => stab (st i).toNat)) i ^^^ tab L (16 * r + i)
def tb (T : List (List Nat)) (r : Nat) : Nat → B := tab (T.getD r [])
def check2 (b : Nat → B) (L : List Nat) (T : List (List Nat)) : Bool := (List.range 16).all (fun i => tb T 0 i == b i ^^^ tab L i) && (List.range 14).all fun r => (List.range 16).all fun i => roundT L (r + 1) (tb T r) i == tb T (r + 1) i
-- the words, once they are there, stay
theorem word_keep (key S : Nat → B) (m : Nat) : ∀ d p, p < 4 * m → wordN key S (m + d) p = wordN key S m p := by
  intro d
  induction d with
  | zero => intro p _; rfl
  | succ d ih =>
    intro p hp
    show blend (wordN key S (m + d)) (4 * (m + d)) 4 _ p = _
    unfold blend
    rw [if_neg (by omega)]
    exact ih p hp
theorem word_at (key S : Nat → B) (i q : Nat) (hi : i < 60) (hq : q < 4) : wordN key S 60 (4 * i + q) = newWord key S i (wordN key S i) q := by
  obtain ⟨d, hd⟩ : ∃ d, 60 = (i + 1) + d := ⟨60 - (i + 1), by omega⟩
  rw [hd, word_keep key S (i + 1) d _ (by omega)]
  show blend (wordN key S i) (4 * i) 4 _ (4 * i + q) = _
  unfold blend
  rw [if_pos (by omega), Nat.add_sub_cancel_left]
theorem tw_congr (S S' : Nat → B) (fc : B) (i : Nat) (W W' : Nat → B) (q : Nat) (hi : 1 ≤ i) (hq : q < 4) (hS : ∀ x : B, S x.toNat = S' x.toNat) (h : ∀ p, p < 4 * i → W p = W' p) : tw S fc i W q = tw S' fc i W' q := by
  have h1 := h (4 * (i - 1) + 1) (by omega)
  have h2 := h (4 * (i - 1) + (q + 1) % 4) (by omega)
  have h3 := h (4 * (i - 1) + q) (by omega)
  unfold tw
  rw [h1, h2, h3, hS, hS, hS]
theorem words_of (key : Nat → B) (L : List Nat) (h : check1 key L = true) : ∀ n p, p < 4 * n → n ≤ 60 → wordN key (subN 256) 60 p = tab L p := by
  intro n
  induction n with
  | zero => intro p hp; omega
  | succ n ih =>
    intro p hp hn
    by_cases h0 : p < 4 * n
    · exact ih p h0 (by omega)
    · obtain ⟨q, rfl⟩ : ∃ q, p = 4 * n + q := ⟨p - 4 * n, by omega⟩
      have hq : q < 4 := by omega
      have hc := List.all_eq_true.1 h (4 * n + q) (List.mem_range.2 (by omega))
      have e1 : (4 * n + q) / 4 = n := by omega
      have e2 : (4 * n + q) % 4 = q := by omega
      rw [e1, e2] at hc
      rw [word_at key _ n q (by omega) hq]
      by_cases h8 : n < 8
      · rw [if_pos h8, beq_iff_eq] at hc
        unfold newWord
        rw [if_pos h8, hc]
      · rw [if_neg h8, beq_iff_eq] at hc
        obtain ⟨d, hd⟩ : ∃ d, 60 = n + d := ⟨60 - n, by omega⟩
        have hk : ∀ p, p < 4 * n → wordN key (subN 256) n p = tab L p := fun p hp => by
          have h2 := ih p hp (by omega)
          rw [hd, word_keep key _ n d p hp] at h2
          exact h2
        rw [newWord_high key _ n h8, hk _ (by omega), hc, show 4 * (n - 8) + q = 4 * n + q - 32 by omega]
        congr 1
        exact tw_congr _ _ _ _ _ _ _ (by omega) hq (fun x => by rw [subN_at, sb_tab]) hk
theorem run_of (key b : Nat → B) (L : List Nat) (T : List (List Nat)) (h1 : check1 key L = true) (h2 : check2 b L T = true) : ∀ r, r ≤ 14 → Eq16 (bl (keyK key) b r) (tb T r) := by
  have hW := words_of key L h1 60
  have hK : ∀ p, p < 240 → keyK key p = tab L p := fun p hp => by
    unfold keyK blend
    rw [if_pos (by omega), Nat.sub_zero]
    exact hW p (by omega) (Nat.le_refl _)
  unfold check2 at h2
  rw [Bool.and_eq_true] at h2
  intro r
  induction r with
  | zero =>
    intro _ i hi
    have hc := List.all_eq_true.1 h2.1 i (List.mem_range.2 hi)
    rw [beq_iff_eq] at hc
    rw [hc]
    show b i ^^^ keyK key (16 * 0 + i) = _
    rw [hK _ (by omega), show 16 * 0 + i = i by omega]
  | succ r ih =>
    intro hr
    have hc := List.all_eq_true.1 h2.2 r (List.mem_range.2 (by omega))
    refine (round_c (r + 1) (ih (by omega))).trans (fun i hi => ?_)
    have hd := List.all_eq_true.1 hc i (List.mem_range.2 hi)
    rw [beq_iff_eq] at hd
    rw [← hd]
    unfold roundS roundT addS
    have e : swapS (keyK key) (tb T r) = fun i => stab (tb T r i).toNat := by
      funext j
      show keyK key (240 + (tb T r j).toNat) = _
      rw [(keyK_ready key).sub, sb_tab]
    rw [e, hK _ (by omega)]
def wz : List Nat := [0, 0, 0, 0, 0, 0, 0, 0, 0, 0, 0, 0, 0, 0, 0, 0, 0, 0, 0, 0, 0, 0, 0, 0, 0, 0, 0, 0, 0, 0, 0, 0, 98, 99, 99, 99, 98, 99, 99, 99, 98, 99, 99, 99, 98, 99, 99, 99, 170, 251, 251, 251, 170, 251, 251, 251, 170, 251, 251, 251, 170, 251, 251, 251, 111, 108, 108, 207, 13, 15, 15, 172, 111, 108, 108, 207, 13, 15, 15, 172, 125, 141, 141, 106, 215, 118, 118, 145, 125, 141, 141, 106, 215, 118, 118, 145, 83, 84, 237, 193, 94, 91, 226, 109, 49, 55, 142, 162, 60, 56, 129, 14, 150, 138, 129, 193, 65, 252, 247, 80, 60, 113, 122, 58, 235, 7, 12, 171, 158, 170, 143, 40, 192, 241, 109, 69, 241, 198, 227, 231, 205, 254, 98, 233, 43, 49, 43, 223, 106, 205, 220, 143, 86, 188, 166, 181, 189, 187, 170, 30, 100, 6, 253, 82, 164, 247, 144, 23, 85, 49, 115, 240, 152, 207, 17, 25, 109, 187, 169, 11, 7, 118, 117, 132, 81, 202, 211, 49, 236, 113, 121, 47, 231, 176, 232, 156, 67, 71, 120, 139, 22, 118, 11, 123, 142, 185, 26, 98, 116, 237, 11, 161, 115, 155, 126, 37, 34, 81, 173, 20, 206, 32, 212, 59, 16, 248, 10, 23, 83, 191, 114, 156, 69, 201, 121, 231, 203, 112, 99, 133]
def tz : List (List Nat) := [[0, 0, 0, 0, 0, 0, 0, 0, 0, 0, 0, 0, 0, 0, 0, 0], [99, 99, 99, 99, 99, 99, 99, 99, 99, 99, 99, 99, 99, 99, 99, 99], [153, 152, 152, 152, 153, 152, 152, 152, 153, 152, 152, 152, 153, 152, 152, 152], [167, 21, 21, 94, 167, 21, 21, 94, 167, 21, 21, 94, 167, 21, 21, 94], [61, 49, 51, 155, 95, 82, 80, 248, 61, 49, 51, 155, 95, 82, 80, 248], [177, 181, 244, 66, 71, 205, 228, 103, 177, 181, 244, 66, 71, 205, 228, 103], [62, 162, 105, 145, 36, 221, 49, 114, 92, 193, 10, 242, 70, 190, 82, 17], [84, 138, 161, 181, 36, 187, 33, 107, 248, 44, 183, 51, 95, 242, 121, 177], [154, 109, 79, 128, 92, 49, 57, 105, 190, 167, 206, 97, 244, 18, 108, 189], [227, 224, 215, 180, 135, 2, 38, 220, 44, 245, 194, 248, 97, 165, 39, 47], [239, 131, 238, 25, 250, 245, 110, 5, 53, 216, 137, 124, 211, 186, 41, 167], [2, 29, 33, 136, 143, 185, 15, 132, 34, 188, 92, 154, 128, 126, 230, 214], [79, 67, 92, 238, 64, 179, 62, 102, 135, 91, 107, 101, 54, 5, 76, 151], [39, 186, 159, 47, 43, 179, 100, 126, 200, 125, 16, 106, 21, 145, 99, 6], [220, 149, 192, 120, 162, 64, 137, 137, 173, 72, 162, 20, 146, 132, 32, 135]]
def tn : List (List Nat) := [[0, 0, 0, 0, 0, 0, 0, 0, 0, 0, 0, 0, 0, 0, 0, 1], [124, 124, 66, 93, 99, 99, 99, 99, 99, 99, 99, 99, 99, 99, 99, 99], [84, 115, 115, 190, 46, 47, 90, 237, 78, 250, 45, 79, 191, 85, 115, 115], [130, 13, 239, 83, 158, 180, 11, 77, 49, 232, 210, 83, 10, 171, 140, 193], [8, 194, 11, 50, 36, 104, 123, 143, 96, 246, 82, 253, 103, 77, 197, 56], [213, 48, 241, 113, 248, 22, 48, 105, 160, 142, 125, 47, 220, 142, 104, 169], [176, 16, 34, 193, 17, 68, 206, 175, 153, 228, 62, 200, 54, 175, 52, 181], [9, 67, 102, 235, 133, 252, 164, 76, 154, 186, 91, 11, 199, 227, 237, 46], [95, 170, 31, 192, 78, 131, 132, 143, 179, 32, 87, 68, 22, 252, 81, 189], [160, 170, 48, 214, 157, 69, 40, 247, 244, 130, 117, 148, 152, 69, 210, 18], [89, 79, 18, 19, 110, 189, 173, 164, 238, 54, 18, 144, 237, 180, 245, 15], [209, 178, 11, 18, 182, 175, 191, 39, 13, 234, 36, 159, 36, 243, 57, 1], [90, 90, 71, 105, 150, 227, 213, 69, 83, 10, 200, 188, 104, 34, 125, 170], [100, 254, 128, 194, 231, 38, 124, 255, 131, 20, 58, 215, 251, 98, 134, 131], [83, 15, 138, 251, 199, 69, 54, 185, 169, 99, 180, 241, 196, 203, 115, 139]]
end Go.Proofs.Ytbebmbcjddibaaa.Aes
namespace Go.Proofs.Ytbebmbcjddibaaa.Gcm
set_option linter.unusedVariables false
set_option linter.unusedSimpArgs false
open Gf Gfi Poly AesF Aes Lng
theorem zero1 : check1 z16 wz = true := by decide +kernel
theorem zero2 : check2 z16 wz tz = true := by decide +kernel
theorem zero3 : check2 (ctr z16 1) wz tn = true := by decide +kernel
/-- Block by a ready key. -/
def encB (K : Nat → B) (b : Nat → B) : Nat → B := bl K b 14
theorem zero_H : Eq16 (encB (keyK z16) z16) (tab [220, 149, 192, 120, 162, 64, 137, 137, 173, 72, 162, 20, 146, 132, 32, 135]) := run_of z16 z16 wz tz zero1 zero2 14 (Nat.le_refl _)
theorem zero_E : Eq16 (encB (keyK z16) (ctr z16 1)) (tab [83, 15, 138, 251, 199, 69, 54, 185, 169, 99, 180, 241, 196, 203, 115, 139]) := run_of z16 (ctr z16 1) wz tn zero1 zero3 14 (Nat.le_refl _)
theorem blkN_congr {f g : Nat → B} : ∀ n, n ≤ 16 → Eq16 f g → blkN f n = blkN g n := by
  intro n
  induction n with
  | zero => intro _ _; rfl
  | succ n ih =>
    intro hn h
    show blkN f n ||| ((f n).setWidth 128 <<< (120 - 8 * n)) = blkN g n ||| ((g n).setWidth 128 <<< (120 - 8 * n))
    rw [ih (by omega) h, h n (by omega)]
theorem blkW_congr {f g : Nat → B} (h : Eq16 f g) : blkW f = blkW g := blkN_congr 16 (Nat.le_refl _) h
/-- H under the key of noughts. -/
def hz : W := blkW (tab [220, 149, 192, 120, 162, 64, 137, 137, 173, 72, 162, 20, 146, 132, 32, 135])
theorem zero_hz : blkW (encB (keyK z16) z16) = hz := blkW_congr zero_H
theorem gm_zero_left (y : W) : gm 0#128 y = 0#128 := by rw [gm_comm, gm_zero]
theorem ghash_nil (H : W) : ghash H [] [] = 0#128 := by
  show gm (0#128 ^^^ lenW 0 0) H = _
  have e : (0#128 ^^^ lenW 0 0 : W) = 0#128 := by decide
  rw [e, gm_zero_left]
theorem byteW_zero (q : Nat) : byteW 0#128 q = 0#8 := by unfold byteW; simp
/-- The known tag. -/
def tagZ : Nat → B := tagF (encB (keyK z16) (ctr z16 1)) (ghash (blkW (encB (keyK z16) z16)) [] [])
theorem tagZ_eq : Eq16 tagZ (tab [83, 15, 138, 251, 199, 69, 54, 185, 169, 99, 180, 241, 196, 203, 115, 139]) := fun i hi => by
  show encB _ _ i ^^^ byteW (ghash _ [] []) i = _
  rw [ghash_nil, byteW_zero, zero_E i hi]
  exact BitVec.xor_zero
theorem tagZ_0 : tagZ 0 = 0x53#8 := (tagZ_eq 0 (by decide)).trans (by decide +kernel)
theorem tagZ_15 : tagZ 15 = 0x8b#8 := (tagZ_eq 15 (by decide)).trans (by decide +kernel)
theorem other_hash : ∃ q, q < 16 ∧ byteW (ghash hz [1] []) q ≠ 0#8 := ⟨0, by decide, by decide +kernel⟩
/-- With another byte beside it the tag is another one. -/
theorem tagZ_other : eq16 (tagF (encB (keyK z16) (ctr z16 1)) (ghash (blkW (encB (keyK z16) z16)) [1] [])) tagZ = false := by
  rw [Bool.eq_false_iff]
  intro h
  rw [eq16_iff] at h
  obtain ⟨q, hq, hne⟩ := other_hash
  have h1 := h q hq
  have h2 : encB (keyK z16) (ctr z16 1) q ^^^ byteW (ghash (blkW (encB (keyK z16) z16)) [1] []) q = encB (keyK z16) (ctr z16 1) q ^^^ byteW (ghash (blkW (encB (keyK z16) z16)) [] []) q := h1
  rw [ghash_nil, byteW_zero, zero_hz, BitVec.xor_zero] at h2
  apply hne
  have h3 := congrArg (fun x => encB (keyK z16) (ctr z16 1) q ^^^ x) h2
  simp only [← BitVec.xor_assoc, BitVec.xor_self, BitVec.zero_xor] at h3
  exact h3
end Go.Proofs.Ytbebmbcjddibaaa.Gcm
