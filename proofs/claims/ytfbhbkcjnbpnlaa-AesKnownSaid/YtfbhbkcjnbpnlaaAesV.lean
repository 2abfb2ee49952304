/- What is said here: two known blocks under two known keys, by tables that are checked place by place. -/
import Derived.Test.YtfbhbkcjnbpnlaaAesP
namespace Go.Proofs.Ytfbhbkcjnbpnlaa.Aes
set_option linter.unusedVariables false
set_option linter.unusedSimpArgs false
open Gf Gfi Poly AesF
def sL : List Nat := [99, 124, 119, 123, 242, 107, 111, 197, 48, 1, 103, 43, 254, 215, 171, 118, 202, 130, 201, 125, 250, 89, 71, 240, 173, 212, 162, 175, 156, 164, 114, 192, 183, 253, 147, 38, 54, 63, 247, 204, 52, 165, 229, 241, 113, 216, 49, 21, 4, 199, 35, 195, 24, 150, 5, 154, 7, 18, 128, 226, 235, 39, 178, 117, 9, 131, 44, 26, 27, 110, 90, 160, 82, 59, 214, 179, 41, 227, 47, 132, 83, 209, 0, 237, 32, 252, 177, 91, 106, 203, 190, 57, 74, 76, 88, 207, 208, 239, 170, 251, 67, 77, 51, 133, 69, 249, 2, 127, 80, 60, 159, 168, 81, 163, 64, 143, 146, 157, 56, 245, 188, 182, 218, 33, 16, 255, 243, 210, 205, 12, 19, 236, 95, 151, 68, 23, 196, 167, 126, 61, 100, 93, 25, 115, 96, 129, 79, 220, 34, 42, 144, 136, 70, 238, 184, 20, 222, 94, 11, 219, 224, 50, 58, 10, 73, 6, 36, 92, 194, 211, 172, 98, 145, 149, 228, 121, 231, 200, 55, 109, 141, 213, 78, 169, 108, 86, 244, 234, 101, 122, 174, 8, 186, 120, 37, 46, 28, 166, 180, 198, 232, 221, 116, 31, 75, 189, 139, 138, 112, 62, 181, 102, 72, 3, 246, 14, 97, 53, 87, 185, 134, 193, 29, 158, 225, 248, 152, 17, 105, 217, 142, 148, 155, 30, 135, 233, 206, 85, 40, 223, 140, 161, 137, 13, 191, 230, 66, 104, 65, 153, 45, 15, 176, 84, 187, 22]
def stab (n : Nat) : B := BitVec.ofNat 8 (sL.getD n 0)
theorem sb_tab (x : B) : sb x = stab x.toNat := all_bits (P := fun x => sb x = stab x.toNat) (by decide +kernel) x
def tab (L : List Nat) (p : Nat) : B := BitVec.ofNat 8 (L.getD p 0)
def check1 (key : Nat → B) (L : List Nat) : Bool := (List.range 240).all fun p => if p / 4 < 8 then key p == tab L p else tab L p == tab L (p - 32) ^^^ tw stab (fac (p / 4 / 8 - 1)) (p / 4) (tab L) (p % 4)
def roundT (L : List Nat) (r : Nat) (st : Nat → B) : Nat → B := fun i => mixR r (shiftS (fun i => stab (st i).toNat)) i ^^^ tab L (16 * r + i)
def tb (T : List (List Nat)) (r : Nat) : Nat → B := tab (T.getD r [])
def check2 (b : Nat → B) (L : List Nat) (T : List (List Nat)) : Bool := (List.range 16).all (fun i => tb T 0 i == b i ^^^ tab L i) && (List.range 14).all fun r => (List.range 16).all fun i => roundT L (r + 1) (tb T r) i == tb T (r + 1) i
-- the words, once they are there, stay
theorem word_keep (key S : Nat → B) (m : Nat) : ∀ d p, p < 4 * m → wordN key S (m + d) p = wordN key S m p := by
  intro d
  induction d with
  | zero => intro p _; rfl
  | succ d ih =>
    intro p hp
    show blend (wordN key S (m + d)) (4 * (m + d)) 4 _ p = _
    unfold blend
    rw [if_neg (by omega)]
    exact ih p hp
theorem word_at (key S : Nat → B) (i q : Nat) (hi : i < 60) (hq : q < 4) : wordN key S 60 (4 * i + q) = newWord key S i (wordN key S i) q := by
  obtain ⟨d, hd⟩ : ∃ d, 60 = (i + 1) + d := ⟨60 - (i + 1), by omega⟩
  rw [hd, word_keep key S (i + 1) d _ (by omega)]
  show blend (wordN key S i) (4 * i) 4 _ (4 * i + q) = _
  unfold blend
  rw [if_pos (by omega), Nat.add_sub_cancel_left]
theorem tw_congr (S S' : Nat → B) (fc : B) (i : Nat) (W W' : Nat → B) (q : Nat) (hi : 1 ≤ i) (hq : q < 4) (hS : ∀ x : B, S x.toNat = S' x.toNat) (h : ∀ p, p < 4 * i → W p = W' p) : tw S fc i W q = tw S' fc i W' q := by
  have h1 := h (4 * (i - 1) + 1) (by omega)
  have h2 := h (4 * (i - 1) + (q + 1) % 4) (by omega)
  have h3 := h (4 * (i - 1) + q) (by omega)
  unfold tw
  rw [h1, h2, h3, hS, hS, hS]
theorem words_of (key : Nat → B) (L : List Nat) (h : check1 key L = true) : ∀ n p, p < 4 * n → n ≤ 60 → wordN key (subN 256) 60 p = tab L p := by
  intro n
  induction n with
  | zero => intro p hp; omega
  | succ n ih =>
    intro p hp hn
    by_cases h0 : p < 4 * n
    · exact ih p h0 (by omega)
    · obtain ⟨q, rfl⟩ : ∃ q, p = 4 * n + q := ⟨p - 4 * n, by omega⟩
      have hq : q < 4 := by omega
      have hc := List.all_eq_true.1 h (4 * n + q) (List.mem_range.2 (by omega))
      have e1 : (4 * n + q) / 4 = n := by omega
      have e2 : (4 * n + q) % 4 = q := by omega
      rw [e1, e2] at hc
      rw [word_at key _ n q (by omega) hq]
      by_cases h8 : n < 8
      · rw [if_pos h8, beq_iff_eq] at hc
        unfold newWord
        rw [if_pos h8, hc]
      · rw [if_neg h8, beq_iff_eq] at hc
        obtain ⟨d, hd⟩ : ∃ d, 60 = n + d := ⟨60 - n, by omega⟩
        have hk : ∀ p, p < 4 * n → wordN key (subN 256) n p = tab L p := fun p hp => by
          have h2 := ih p hp (by omega)
          rw [hd, word_keep key _ n d p hp] at h2
          exact h2
        rw [newWord_high key _ n h8, hk _ (by omega), hc, show 4 * (n - 8) + q = 4 * n + q - 32 by omega]
        congr 1
        exact tw_congr _ _ _ _ _ _ _ (by omega) hq (fun x => by rw [subN_at, sb_tab]) hk
theorem run_of (key b : Nat → B) (L : List Nat) (T : List (List Nat)) (h1 : check1 key L = true) (h2 : check2 b L T = true) : ∀ r, r ≤ 14 → Eq16 (bl (keyK key) b r) (tb T r) := by
  have hW := words_of key L h1 60
  have hK : ∀ p, p < 240 → keyK key p = tab L p := fun p hp => by
    unfold keyK blend
    rw [if_pos (by omega), Nat.sub_zero]
    exact hW p (by omega) (Nat.le_refl _)
  unfold check2 at h2
  rw [Bool.and_eq_true] at h2
  intro r
  induction r with
  | zero =>
    intro _ i hi
    have hc := List.all_eq_true.1 h2.1 i (List.mem_range.2 hi)
    rw [beq_iff_eq] at hc
    rw [hc]
    show b i ^^^ keyK key (16 * 0 + i) = _
    rw [hK _ (by omega), show 16 * 0 + i = i by omega]
  | succ r ih =>
    intro hr
    have hc := List.all_eq_true.1 h2.2 r (List.mem_range.2 (by omega))
    refine (round_c (r + 1) (ih (by omega))).trans (fun i hi => ?_)
    have hd := List.all_eq_true.1 hc i (List.mem_range.2 hi)
    rw [beq_iff_eq] at hd
    rw [← hd]
    unfold roundS roundT addS
    have e : swapS (keyK key) (tb T r) = fun i => stab (tb T r i).toNat := by
      funext j
      show keyK key (240 + (tb T r j).toNat) = _
      rw [(keyK_ready key).sub, sb_tab]
    rw [e, hK _ (by omega)]
def wz : List Nat := [0, 0, 0, 0, 0, 0, 0, 0, 0, 0, 0, 0, 0, 0, 0, 0, 0, 0, 0, 0, 0, 0, 0, 0, 0, 0, 0, 0, 0, 0, 0, 0, 98, 99, 99, 99, 98, 99, 99, 99, 98, 99, 99, 99, 98, 99, 99, 99, 170, 251, 251, 251, 170, 251, 251, 251, 170, 251, 251, 251, 170, 251, 251, 251, 111, 108, 108, 207, 13, 15, 15, 172, 111, 108, 108, 207, 13, 15, 15, 172, 125, 141, 141, 106, 215, 118, 118, 145, 125, 141, 141, 106, 215, 118, 118, 145, 83, 84, 237, 193, 94, 91, 226, 109, 49, 55, 142, 162, 60, 56, 129, 14, 150, 138, 129, 193, 65, 252, 247, 80, 60, 113, 122, 58, 235, 7, 12, 171, 158, 170, 143, 40, 192, 241, 109, 69, 241, 198, 227, 231, 205, 254, 98, 233, 43, 49, 43, 223, 106, 205, 220, 143, 86, 188, 166, 181, 189, 187, 170, 30, 100, 6, 253, 82, 164, 247, 144, 23, 85, 49, 115, 240, 152, 207, 17, 25, 109, 187, 169, 11, 7, 118, 117, 132, 81, 202, 211, 49, 236, 113, 121, 47, 231, 176, 232, 156, 67, 71, 120, 139, 22, 118, 11, 123, 142, 185, 26, 98, 116, 237, 11, 161, 115, 155, 126, 37, 34, 81, 173, 20, 206, 32, 212, 59, 16, 248, 10, 23, 83, 191, 114, 156, 69, 201, 121, 231, 203, 112, 99, 133]
def tz : List (List Nat) := [[0, 0, 0, 0, 0, 0, 0, 0, 0, 0, 0, 0, 0, 0, 0, 0], [99, 99, 99, 99, 99, 99, 99, 99, 99, 99, 99, 99, 99, 99, 99, 99], [153, 152, 152, 152, 153, 152, 152, 152, 153, 152, 152, 152, 153, 152, 152, 152], [167, 21, 21, 94, 167, 21, 21, 94, 167, 21, 21, 94, 167, 21, 21, 94], [61, 49, 51, 155, 95, 82, 80, 248, 61, 49, 51, 155, 95, 82, 80, 248], [177, 181, 244, 66, 71, 205, 228, 103, 177, 181, 244, 66, 71, 205, 228, 103], [62, 162, 105, 145, 36, 221, 49, 114, 92, 193, 10, 242, 70, 190, 82, 17], [84, 138, 161, 181, 36, 187, 33, 107, 248, 44, 183, 51, 95, 242, 121, 177], [154, 109, 79, 128, 92, 49, 57, 105, 190, 167, 206, 97, 244, 18, 108, 189], [227, 224, 215, 180, 135, 2, 38, 220, 44, 245, 194, 248, 97, 165, 39, 47], [239, 131, 238, 25, 250, 245, 110, 5, 53, 216, 137, 124, 211, 186, 41, 167], [2, 29, 33, 136, 143, 185, 15, 132, 34, 188, 92, 154, 128, 126, 230, 214], [79, 67, 92, 238, 64, 179, 62, 102, 135, 91, 107, 101, 54, 5, 76, 151], [39, 186, 159, 47, 43, 179, 100, 126, 200, 125, 16, 106, 21, 145, 99, 6], [220, 149, 192, 120, 162, 64, 137, 137, 173, 72, 162, 20, 146, 132, 32, 135]]
def wk : List Nat := [0, 1, 2, 3, 4, 5, 6, 7, 8, 9, 10, 11, 12, 13, 14, 15, 16, 17, 18, 19, 20, 21, 22, 23, 24, 25, 26, 27, 28, 29, 30, 31, 165, 115, 194, 159, 161, 118, 196, 152, 169, 127, 206, 147, 165, 114, 192, 156, 22, 81, 168, 205, 2, 68, 190, 218, 26, 93, 164, 193, 6, 64, 186, 222, 174, 135, 223, 240, 15, 241, 27, 104, 166, 142, 213, 251, 3, 252, 21, 103, 109, 225, 241, 72, 111, 165, 79, 146, 117, 248, 235, 83, 115, 184, 81, 141, 198, 86, 130, 127, 201, 167, 153, 23, 111, 41, 76, 236, 108, 213, 89, 139, 61, 226, 58, 117, 82, 71, 117, 231, 39, 191, 158, 180, 84, 7, 207, 57, 11, 220, 144, 95, 194, 123, 9, 72, 173, 82, 69, 164, 193, 135, 28, 47, 69, 245, 166, 96, 23, 178, 211, 135, 48, 13, 77, 51, 100, 10, 130, 10, 124, 207, 247, 28, 190, 180, 254, 84, 19, 230, 187, 240, 210, 97, 167, 223, 240, 26, 250, 254, 231, 168, 41, 121, 215, 165, 100, 74, 179, 175, 230, 64, 37, 65, 254, 113, 155, 245, 0, 37, 136, 19, 187, 213, 90, 114, 28, 10, 78, 90, 102, 153, 169, 242, 79, 224, 126, 87, 43, 170, 205, 248, 205, 234, 36, 252, 121, 204, 191, 9, 121, 233, 55, 26, 194, 60, 109, 104, 222, 54]
def tk : List (List Nat) := [[0, 16, 32, 48, 64, 80, 96, 112, 128, 144, 160, 176, 192, 208, 224, 240], [79, 99, 118, 6, 67, 224, 170, 133, 239, 167, 33, 50, 1, 164, 231, 5], [24, 89, 251, 194, 138, 28, 0, 160, 120, 237, 138, 173, 196, 47, 97, 9], [151, 92, 102, 193, 203, 159, 63, 168, 169, 58, 40, 223, 142, 225, 15, 99], [28, 5, 242, 113, 164, 23, 224, 79, 249, 33, 197, 193, 4, 112, 21, 84], [195, 87, 170, 225, 27, 69, 183, 176, 162, 199, 189, 40, 168, 220, 153, 250], [127, 7, 65, 67, 203, 78, 36, 62, 193, 12, 129, 93, 131, 117, 213, 76], [214, 83, 164, 105, 108, 160, 188, 15, 90, 202, 171, 93, 185, 108, 94, 125], [90, 168, 88, 57, 95, 210, 141, 125, 5, 225, 163, 136, 104, 243, 185, 197], [74, 130, 72, 81, 197, 126, 126, 71, 100, 61, 229, 12, 42, 243, 232, 201], [193, 73, 7, 246, 202, 59, 58, 160, 112, 233, 170, 49, 59, 82, 181, 236], [95, 156, 106, 191, 186, 198, 52, 170, 80, 64, 159, 167, 102, 103, 118, 83], [81, 102, 4, 149, 67, 83, 149, 3, 20, 251, 134, 228, 1, 146, 37, 33], [98, 123, 206, 185, 153, 157, 90, 170, 201, 69, 236, 244, 35, 245, 109, 165], [142, 162, 183, 202, 81, 103, 69, 191, 234, 252, 73, 144, 75, 73, 96, 137]]
def zkey : Nat → B := fun _ => 0#8
theorem zero1 : check1 zkey wz = true := by decide +kernel
theorem zero2 : check2 zkey wz tz = true := by decide +kernel
theorem zero_run : bl (keyK zkey) zkey 14 0 = 0xdc#8 ∧ bl (keyK zkey) zkey 14 15 = 0x87#8 := by
  have h := run_of zkey zkey wz tz zero1 zero2 14 (Nat.le_refl _)
  exact ⟨(h 0 (by decide)).trans (by decide +kernel), (h 15 (by decide)).trans (by decide +kernel)⟩
/-- The chapter's example. -/
def kkey : Nat → B := fun i => BitVec.ofNat 8 i
def kblk : Nat → B := fun i => BitVec.ofNat 8 (17 * i)
def kwant : Nat → B := tab [142, 162, 183, 202, 81, 103, 69, 191, 234, 252, 73, 144, 75, 73, 96, 137]
theorem known1 : check1 kkey wk = true := by decide +kernel
theorem known2 : check2 kblk wk tk = true := by decide +kernel
theorem known_run : Eq16 (bl (keyK kkey) kblk 14) kwant := run_of kkey kblk wk tk known1 known2 14 (Nat.le_refl _)
end Go.Proofs.Ytfbhbkcjnbpnlaa.Aes
