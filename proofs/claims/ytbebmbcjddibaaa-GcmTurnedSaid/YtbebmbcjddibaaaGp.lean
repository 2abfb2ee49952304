/- What is said here: the law's helpers mod and turned: bits turned in a piece of a text; what such a turn does to the hash. -/
import Derived.Test.YtbebmbcjddibaaaGm2
import Derived.Test.YtbebmbcjddibaaaGcmB
namespace Go.Proofs.Ytbebmbcjddibaaa.Gcm
set_option linter.unusedVariables false
set_option linter.unusedSimpArgs false
open Go.RowKit Go.Proofs.YtbebmbcjddibaaaW.PrintWords Go.Proofs.YtbebmbcjddibaaaW.PrintLast Go.Proofs.YtbebmbcjddibaaaW.PrintMore Go.Proofs.Ytbebmbcjddibaaa.PG Gf Gfi Poly AesF Aes Lng
/-- x brought to 0 to n - 1. -/
theorem mod_t (x : Int) (n : Nat) (hn : n < 1000000) : ∃ r : Nat, (n = 0 → r = 0) ∧ (0 < n → r < n) ∧ ∀ w : World, Calls Try.prog 18 #[.int .i64 x, .int .i64 (n : Int)] w fun e w' => e = .returned (.int .i64 (r : Int)) ∧ Below w.heap.size w w' := by
  obtain ⟨r, h0, h1, hf⟩ : ∃ r : Nat, (n = 0 → r = 0) ∧ (0 < n → r < n) ∧ ciboriumlaw06_mod.f x (n : Int) = some (r : Int) := by
    unfold ciboriumlaw06_mod.f
    by_cases h : n = 0
    · exact ⟨0, fun _ => rfl, fun h2 => by omega, by rw [if_pos (by omega)]; rfl⟩
    · rw [if_neg (by omega)]
      have hl : Int.tmod x n < n := by have := Int.tmod_lt_of_pos x (show (0 : Int) < n by omega); omega
      have hg : -(n : Int) < Int.tmod x n := by
        have h1 := Int.tmod_eq_emod (a := x) (b := (n : Int))
        have h2 := Int.emod_nonneg x (show (n : Int) ≠ 0 by omega)
        have h3 := Int.emod_lt_of_pos x (show (0 : Int) < n by omega)
        split at h1
        · omega
        · simp at h1
          by_cases h4 : x % (n : Int) = 0
          · rw [h4] at h1; omega
          · omega
      by_cases hneg : Int.tmod x n < 0
      · refine ⟨(Int.tmod x n + n).toNat, fun h2 => absurd h2 h, fun _ => by omega, ?_⟩
        rw [if_pos hneg]
        unfold wrap64
        congr 1
        omega
      · exact ⟨(Int.tmod x n).toNat, fun h2 => absurd h2 h, fun _ => by omega, by rw [if_neg hneg]; congr 1; omega⟩
  refine ⟨r, h0, h1, fun w => (ciboriumlaw06_mod.calls x (n : Int) (r : Int) w hf).mono ?_⟩
  rintro e w' ⟨rfl, hb⟩
  exact ⟨rfl, hb.below⟩
/-- The text with its first k bytes behind f turned. -/
def turnN (l : List Int) (f : Nat) (mask : Nat → B) (k : Nat) : List Int := (List.range l.length).map fun j => if f ≤ j ∧ j < f + k then ofB (toB (l.getD j 0) ^^^ mask (j - f)) else l.getD j 0
def otherN (n f : Nat) (mask : Nat → B) : Nat → Bool
  | 0 => false
  | k + 1 => otherN n f mask k || (decide (f + k < n) && (ofB (mask k) != 0))
theorem turnN_len (l : List Int) (f : Nat) (mask : Nat → B) (k : Nat) : (turnN l f mask k).length = l.length := by simp [turnN]
theorem turnN_at (l : List Int) (f : Nat) (mask : Nat → B) (k j : Nat) (hj : j < l.length) : (turnN l f mask k).getD j 0 = if f ≤ j ∧ j < f + k then ofB (toB (l.getD j 0) ^^^ mask (j - f)) else l.getD j 0 := by
  unfold turnN
  rw [List.getD_eq_getElem?_getD, List.getElem?_map, List.getElem?_range hj]; rfl
theorem ext_getD {a b : List Int} (hl : a.length = b.length) (h : ∀ j, j < a.length → a.getD j 0 = b.getD j 0) : a = b := by
  apply List.ext_getElem hl
  intro j h1 h2
  have := h j h1
  rwa [List.getD_eq_getElem?_getD, List.getD_eq_getElem?_getD, List.getElem?_eq_getElem h1, List.getElem?_eq_getElem h2] at this
theorem turnN_zero (l : List Int) (f : Nat) (mask : Nat → B) : turnN l f mask 0 = l := by
  refine ext_getD (turnN_len _ _ _ _) (fun j hj => ?_)
  rw [turnN_at _ _ _ _ _ (by rwa [turnN_len] at hj), if_neg (by omega)]
theorem turnN_succ (l : List Int) (f : Nat) (mask : Nat → B) (k : Nat) (hk : f + k < l.length) : (turnN l f mask k).set (f + k) (ofB (toB (l.getD (f + k) 0) ^^^ mask k)) = turnN l f mask (k + 1) := by
  refine ext_getD (by rw [List.length_set, turnN_len, turnN_len]) (fun j hj => ?_)
  rw [List.length_set, turnN_len] at hj
  rw [turnN_at _ _ _ _ _ hj]
  by_cases e : j = f + k
  · subst e
    rw [if_pos (by omega), List.getD_eq_getElem?_getD, List.getElem?_set_self (by rw [turnN_len]; exact hk), Nat.add_sub_cancel_left]; rfl
  · rw [List.getD_eq_getElem?_getD, List.getElem?_set_ne (by omega), ← List.getD_eq_getElem?_getD, turnN_at _ _ _ _ _ hj]
    by_cases h : f ≤ j ∧ j < f + k
    · rw [if_pos h, if_pos (by omega)]
    · rw [if_neg h, if_neg (by omega)]
theorem turnN_end (l : List Int) (f : Nat) (mask : Nat → B) (k : Nat) (hk : k ≤ 16) (h : l.length ≤ f + k) : turnN l f mask k = turnN l f mask 16 := by
  refine ext_getD (by rw [turnN_len, turnN_len]) (fun j hj => ?_)
  rw [turnN_len] at hj
  rw [turnN_at _ _ _ _ _ hj, turnN_at _ _ _ _ _ hj]
  by_cases h1 : f ≤ j ∧ j < f + k
  · rw [if_pos h1, if_pos (by omega)]
  · rw [if_neg h1, if_neg (by omega)]
theorem otherN_end (n f : Nat) (mask : Nat → B) (k : Nat) (h : n ≤ f + k) : ∀ d, otherN n f mask (k + d) = otherN n f mask k := by
  intro d
  induction d with
  | zero => rfl
  | succ d ih =>
    show (otherN n f mask (k + d) || (decide (f + (k + d) < n) && _)) = _
    rw [ih, decide_eq_false (by omega), Bool.false_and, Bool.or_false]
theorem turnN_by (l : List Int) (hl : ∀ x ∈ l, 0 ≤ x ∧ x < 256) (f : Nat) (mask : Nat → B) (k : Nat) : ∀ x ∈ turnN l f mask k, 0 ≤ x ∧ x < 256 := fun x hx => by
  unfold turnN at hx
  obtain ⟨j, hj, rfl⟩ := List.mem_map.1 hx
  have hj := List.mem_range.1 hj
  split
  · exact ofB_range _
  · refine hl _ ?_
    rw [List.getD_eq_getElem?_getD, List.getElem?_eq_getElem hj]
    exact List.getElem_mem hj
/-- Some byte was turned. -/
theorem otherN_some (n f : Nat) (mask : Nat → B) : ∀ k, otherN n f mask k = true → ∃ i, i < k ∧ f + i < n ∧ mask i ≠ 0#8 := by
  intro k
  induction k with
  | zero => intro h; cases h
  | succ k ih =>
    intro h
    have h2 : (otherN n f mask k || (decide (f + k < n) && (ofB (mask k) != 0))) = true := h
    rw [Bool.or_eq_true, Bool.and_eq_true, decide_eq_true_eq, bne_iff_ne] at h2
    rcases h2 with h2 | ⟨h2, h3⟩
    · obtain ⟨i, h4, h5⟩ := ih h2
      exact ⟨i, by omega, h5⟩
    · refine ⟨k, by omega, h2, fun e => h3 ?_⟩
      rw [e]; rfl
set_option maxRecDepth 100000 in
set_option maxHeartbeats 4000000 in
theorem turned_calls (mask : Nat → B) (A : Option Addr) (c : Nat) (l : List Int) (f : Nat) (hf : f < 200000) (w : World) (h : Txt w A c l) :
    Calls Try.prog 19 #[.slice A l.length c, .int .i64 (f : Int), .agg (cB 16 mask)] w fun e w' => ∃ v, e = .returned (.tuple #[v, .bool (otherN l.length f mask 16)]) ∧ Row.Is w' w.heap.size v (turnN l f mask 16) ∧ Below w.heap.size w w' := by
  have HM0 := Lib.hid (Blk.Is.new w (cB 16 mask) 37)
  have HB0 := Lib.hid ((Below.refl _ w).alloc (Nat.le_refl _) (.cells (cB 16 mask) 37))
  have HT0 := Lib.hid (h.below HB0.out)
  have HFE := Lib.hid h.few
  have HBY := Lib.hid h.by_
  have HF := Lib.hid hf
  clear h hf
  go_enter Try.func19, Try.ntmps19
  go_wp2_with fail
  generalize w.alloc (.cells (cB 16 mask) 37) = w0 at *
  refine (copy_t HT0.out).mono ?_
  rintro e w1 ⟨A', c', rfl, hT, hR, hb⟩
  have HM1 := Lib.hid (HM0.out.below hb HM0.out.lt)
  have HB1 := Lib.hid (HB0.out.trans (hb.mono HB0.out.size))
  have hR1 := hR.lower (show w.heap.size + 1 ≤ w0.heap.size from HM0.out.lt)
  rw [← turnN_zero l f mask] at hR1
  have HR1 : Hid (Row.Is w1 (w.heap.size + 1) (.slice A' l.length c') (turnN l f mask 0)) := by
    have h2 := hR1
    rw [turnN_len] at h2
    exact h2
  clear hT hR hR1 hb HM0 HB0 HT0
  generalize hg : w.heap.size = g at *
  have HG := Lib.hid hg
  clear hg
  go_wp2_with fail
  go_loopw [9, 10, 13, 14, 15, 16, 17, 18, 19, 20, 21, 22, 23, 24, 25, 26, 27, 28, 29, 30, 31, 32, 33, 34, 35, 36, 37, 38, 39, 40, 41, 42, 43, 44, 45, 46] (fun v9 v10 v13 v14 v15 v16 v17 v18 v19 v20 v21 v22 v23 v24 v25 v26 v27 v28 v29 v30 v31 v32 v33 v34 v35 v36 v37 v38 v39 v40 v41 v42 v43 v44 v45 v46 wr => ∃ (i : Nat), i ≤ 16 ∧ v10 = .int .i64 (i : Int) ∧ v9 = .bool (otherN l.length f mask i) ∧ Hid (Row.Is wr (g + 1) (.slice A' l.length c') (turnN l f mask i)) ∧ Hid (Blk.Is wr g (cB 16 mask) 37) ∧ Hid (Below g w wr)) (fun _ v10 _ _ _ _ _ _ _ _ _ _ _ _ _ _ _ _ _ _ _ _ _ _ _ _ _ _ _ _ _ _ _ _ _ _ _ => 16 - (intOf v10).toNat)
  case atStart => exact ⟨0, by omega, rfl, rfl, HR1, HM1, HB1⟩
  case round =>
    clear HR1 HM1 HB1
    obtain ⟨i, hi, rfl, rfl, HR, HM, HB⟩ := hrel
    obtain ⟨wo, rfl⟩ : ∃ wo, wo = wr := ⟨_, rfl⟩
    have hfB := HF.out
    have hlB := HFE.out
    obtain ⟨j, hj⟩ : ∃ j : Nat, j = f + i := ⟨_, rfl⟩
    have hjI : (f : Int) + (i : Int) = (j : Int) := by omega
    have HJ := Lib.hid hj
    have HI := Lib.hid hi
    by_cases h16 : i < 16
    · by_cases hjl : j < l.length
      · obtain ⟨gs, rfl, hgs⟩ := HR.out.head (by rw [turnN_len]; omega)
        have HGS := Lib.hid hgs
        have hh := HR.out.cell j (by rw [turnN_len]; exact hjl)
        rw [turnN_at _ _ _ _ _ hjl, if_neg (by omega)] at hh
        obtain ⟨c0, f0⟩ := hh
        have m0 : wo.cell? ⟨g, i, none⟩ = some (.int .u8 (ofB (mask i))) := by rw [HM.out.cell, cB_get 16 _ _ h16]
        obtain ⟨bx, hbx⟩ : ∃ bx, bx = toB (l.getD j 0) := ⟨_, rfl⟩
        have hm : l.getD j 0 ∈ l := by rw [List.getD_eq_getElem?_getD, List.getElem?_eq_getElem hjl]; exact List.getElem_mem hjl
        have ebx : ofB bx = l.getD j 0 := by rw [hbx]; exact ofB_toB (HBY.out _ hm).1 (HBY.out _ hm).2
        rw [← ebx] at c0
        have hx : Go.bits .xor .u8 (ofB bx) (ofB (mask i)) = ofB (bx ^^^ mask i) := bits_xor _ _
        have HN : Hid ((turnN l f mask i).set j (ofB (bx ^^^ mask i)) = turnN l f mask (i + 1)) := by
          have h2 := turnN_succ l f mask i (by omega)
          rw [← hj, ← hbx] at h2
          exact h2
        have HON : Hid (otherN l.length f mask (i + 1) = (otherN l.length f mask i || (ofB (mask i) != 0))) := by
          show (otherN l.length f mask i || (decide (f + i < l.length) && (ofB (mask i) != 0))) = _
          rw [decide_eq_true (show f + i < l.length by omega), Bool.true_and]
        have HJL := Lib.hid hjl
        have hjlI : (j : Int) < (l.length : Int) := by omega
        have h16I : (i : Int) < 16 := by omega
        generalize otherN l.length f mask i = di at *
        generalize ofB (bx ^^^ mask i) = nv at *
        generalize ofB bx = bv at *
        clear hm ebx hj hbx
        go_wp2_with fail
        go_region
        clear c0 f0
        have HM5 := Lib.hid ((HM.out.other (a := ⟨gs, j, none⟩) (by have := HGS.out; simp; omega) (.int .u8 nv)).drew)
        have HB5 := Lib.hid ((HB.out.setCell (p := ⟨gs, j, none⟩) (by have := HGS.out; show g ≤ gs; omega) (.int .u8 nv)).drew)
        have hr := (HR.out.store j nv).below (Below.refl _ _).drew
        rw [HN.out] at hr
        have HR5 := Lib.hid hr
        clear hr HM HB HR m0 hx
        generalize (wo.setCell ⟨gs, j, none⟩ (.int .u8 nv)).drew = w5 at *
        have m0 : w5.cell? ⟨g, i, none⟩ = some (.int .u8 (ofB (mask i))) := by rw [HM5.out.cell, cB_get 16 _ _ (by have := HI.out; omega)]
        cases di with
        | true =>
          go_wp2_with fail
          go_roundw
          case rel => exact ⟨i + 1, by omega, by go_num, by rw [HON.out]; rfl, HR5, HM5, HB5⟩
          case measure => simp [intOf]; omega
        | false =>
          go_wp2_with fail
          go_roundw
          case rel => exact ⟨i + 1, by omega, by go_num, by rw [HON.out, Bool.false_or], HR5, HM5, HB5⟩
          case measure => simp [intOf]; omega
      · have e1 := turnN_end l f mask i (by omega) (by omega)
        have e2 := otherN_end l.length f mask i (by omega) (16 - i)
        rw [show i + (16 - i) = 16 by omega] at e2
        rw [e1] at HR
        rw [← e2]
        clear e1 e2
        have hjlI : ¬ (j : Int) < (l.length : Int) := by omega
        have h16I : (i : Int) < 16 := by omega
        have hjB : j < 300000 := by omega
        clear hj
        go_wp2_with fail
        go_ret2
        exact ⟨_, rfl, HR.out.lower (by rw [HG.out]; omega), by rw [HG.out]; exact HB.out⟩
    · obtain rfl : i = 16 := by omega
      go_wp2_with fail
      go_ret2
      exact ⟨_, rfl, HR.out.lower (by rw [HG.out]; omega), by rw [HG.out]; exact HB.out⟩
end Go.Proofs.Ytbebmbcjddibaaa.Gcm
/- What is said here: what is turned is refused: the tag, the nonce, a long element of the text or of what is sealed beside it. No program. -/
namespace Go.Proofs.Ytbebmbcjddibaaa.Gcm
set_option linter.unusedVariables false
set_option linter.unusedSimpArgs false
open Gf Gfi Poly AesF Aes Lng
theorem xor_cancel {a b c : B} (h : a ^^^ b = a ^^^ c) : b = c := by
  have h2 := congrArg (fun x => a ^^^ x) h
  simp only [← BitVec.xor_assoc, BitVec.xor_self, BitVec.zero_xor] at h2
  exact h2
theorem xor_cancelW {a b c : W} (h : b ^^^ a = c ^^^ a) : b = c := by
  have h2 := congrArg (fun x => x ^^^ a) h
  simp only [BitVec.xor_assoc, BitVec.xor_self, BitVec.xor_zero] at h2
  exact h2
theorem blkW_inj {f g : Nat → B} (h : blkW f = blkW g) : Eq16 f g := fun i hi => by
  apply BitVec.eq_of_getLsbD_eq
  intro k hk
  have h1 := blk_bit f (8 * i + (7 - k)) (by omega)
  have h2 := blk_bit g (8 * i + (7 - k)) (by omega)
  rw [show (8 * i + (7 - k)) / 8 = i by omega, show 7 - (8 * i + (7 - k)) % 8 = k by omega] at h1 h2
  rw [← h1, ← h2, h]
theorem byteW_inj {x y : W} (h : ∀ q, q < 16 → byteW x q = byteW y q) : x = y := by
  apply ext127
  intro j hj
  have h1 := h (j / 8) (by omega)
  have h2 := congrArg (fun b : B => b.getLsbD (7 - j % 8)) h1
  simp only [byteW, BitVec.getLsbD_setWidth, BitVec.getLsbD_ushiftRight] at h2
  rw [show 120 - 8 * (j / 8) + (7 - j % 8) = 127 - j by omega, decide_eq_true (show 7 - j % 8 < 8 by omega), Bool.true_and, Bool.true_and] at h2
  exact h2
theorem chunk_turn (l : List Int) (a b : Nat) (mask : Nat → B) (i : Nat) (hi : i < 16) : chunk (turnN l (16 * a) mask 16) (16 * b) i = if b = a ∧ 16 * a + i < l.length then chunk l (16 * b) i ^^^ mask i else chunk l (16 * b) i := by
  unfold chunk
  by_cases hl : 16 * b + i < l.length
  · rw [turnN_at _ _ _ _ _ hl]
    by_cases e : b = a
    · subst e
      rw [if_pos (by omega), if_pos ⟨rfl, hl⟩, toB_ofB, Nat.add_sub_cancel_left]
    · rw [if_neg (by omega), if_neg (fun h => e h.1)]
  · rw [if_neg (fun h => hl (by rw [h.1]; exact h.2)), List.getD_eq_getElem?_getD, List.getD_eq_getElem?_getD, List.getElem?_eq_none (by rw [turnN_len]; omega), List.getElem?_eq_none (by omega)]
theorem blk_other (l : List Int) (a b : Nat) (mask : Nat → B) (hb : b ≠ a) : blkW (chunk (turnN l (16 * a) mask 16) (16 * b)) = blkW (chunk l (16 * b)) :=
  blkW_congr (fun i hi => by rw [chunk_turn _ _ _ _ _ hi, if_neg (fun h => hb h.1)])
theorem blk_unlike (l : List Int) (a : Nat) (mask : Nat → B) (h : otherN l.length (16 * a) mask 16 = true) : blkW (chunk (turnN l (16 * a) mask 16) (16 * a)) ≠ blkW (chunk l (16 * a)) := fun e => by
  obtain ⟨i, hi, hl, hm⟩ := otherN_some _ _ _ _ h
  have h2 := blkW_inj e i hi
  rw [chunk_turn _ _ _ _ _ hi, if_pos ⟨rfl, hl⟩] at h2
  apply hm
  have h3 : chunk l (16 * a) i ^^^ mask i = chunk l (16 * a) i ^^^ 0#8 := by rw [h2, BitVec.xor_zero]
  exact xor_cancel h3
theorem absN_same (H y : W) (l : List Int) (a : Nat) (mask : Nat → B) : ∀ n, n ≤ a → absN H y (turnN l (16 * a) mask 16) n = absN H y l n := by
  intro n
  induction n with
  | zero => intro _; rfl
  | succ n ih =>
    intro hn
    show gm (absN H y _ n ^^^ blkW (chunk _ (16 * n))) H = gm (absN H y l n ^^^ blkW (chunk l (16 * n))) H
    rw [ih (by omega), blk_other _ _ _ _ (by omega)]
theorem absN_diff {H : W} (hH : H ≠ 0#128) (y : W) (l : List Int) (a : Nat) (mask : Nat → B) (h : otherN l.length (16 * a) mask 16 = true) : ∀ n, a < n → absN H y (turnN l (16 * a) mask 16) n ≠ absN H y l n := by
  intro n
  induction n with
  | zero => intro h; omega
  | succ n ih =>
    intro hn e
    have e1 : absN H y (turnN l (16 * a) mask 16) n ^^^ blkW (chunk (turnN l (16 * a) mask 16) (16 * n)) = absN H y l n ^^^ blkW (chunk l (16 * n)) := gm_inj hH e
    by_cases hna : n = a
    · subst hna
      rw [absN_same _ _ _ _ _ _ (Nat.le_refl _)] at e1
      rw [BitVec.xor_comm (absN H y l n), BitVec.xor_comm (absN H y l n)] at e1
      exact blk_unlike _ _ _ h (xor_cancelW e1)
    · rw [blk_other _ _ _ _ hna] at e1
      exact ih (by omega) (xor_cancelW e1)
theorem absN_from {H : W} (hH : H ≠ 0#128) {y y' : W} (hy : y ≠ y') (l : List Int) : ∀ n, absN H y l n ≠ absN H y' l n := by
  intro n
  induction n with
  | zero => exact hy
  | succ n ih =>
    intro e
    have e1 : absN H y l n ^^^ blkW (chunk l (16 * n)) = absN H y' l n ^^^ blkW (chunk l (16 * n)) := gm_inj hH e
    exact ih (xor_cancelW e1)
theorem absorb_turn {H : W} (hH : H ≠ 0#128) (y : W) (l : List Int) (a : Nat) (mask : Nat → B) (h : otherN l.length (16 * a) mask 16 = true) : absorb H y (turnN l (16 * a) mask 16) ≠ absorb H y l := by
  unfold absorb
  rw [turnN_len]
  obtain ⟨i, hi, hl, _⟩ := otherN_some _ _ _ _ h
  exact absN_diff hH y l a mask h _ (by omega)
theorem ghash_ad {H : W} (hH : H ≠ 0#128) (l t : List Int) (a : Nat) (mask : Nat → B) (h : otherN l.length (16 * a) mask 16 = true) : ghash H (turnN l (16 * a) mask 16) t ≠ ghash H l t := fun e => by
  unfold ghash at e
  rw [turnN_len] at e
  exact absN_from hH (absorb_turn hH _ l a mask h) t _ (xor_cancelW (gm_inj hH e))
theorem ghash_text {H : W} (hH : H ≠ 0#128) (l t : List Int) (a : Nat) (mask : Nat → B) (h : otherN t.length (16 * a) mask 16 = true) : ghash H l (turnN t (16 * a) mask 16) ≠ ghash H l t := fun e => by
  unfold ghash at e
  rw [turnN_len] at e
  exact absorb_turn hH _ t a mask h (xor_cancelW (gm_inj hH e))
variable {E : (Nat → B) → Nat → B} {nonce : Nat → B} {l1 l2 : List Int}
/-- The tag turned. -/
theorem bad_tag (mask : Nat → B) (n : Nat) (hn : l2.length = n) (s : List Int) (hs : s = sealL E nonce l1 l2) (h : otherN s.length n mask 16 = true) : tagOk E nonce l1 (turnN s n mask 16) n = false := by
  subst hs hn
  rw [Bool.eq_false_iff]
  intro hk
  unfold tagOk at hk
  rw [eq16_iff] at hk
  obtain ⟨i, hi, hl, hm⟩ := otherN_some _ _ _ _ h
  have et : (turnN (sealL E nonce l1 l2) l2.length mask 16).take l2.length = (sealL E nonce l1 l2).take l2.length := by
    refine ext_getD (by rw [List.length_take, List.length_take, turnN_len]) (fun j hj => ?_)
    rw [List.length_take, turnN_len, seal_len] at hj
    rw [List.getD_eq_getElem?_getD, List.getD_eq_getElem?_getD, List.getElem?_take_of_lt (by omega), List.getElem?_take_of_lt (by omega), ← List.getD_eq_getElem?_getD, ← List.getD_eq_getElem?_getD, turnN_at _ _ _ _ _ (by rw [seal_len]; omega), if_neg (by omega)]
  rw [et, take_seal] at hk
  have h1 := hk i hi
  have h2 := chunk_seal E nonce l1 l2 i hi
  rw [← h2] at h1
  unfold chunk at h1
  rw [turnN_at _ _ _ _ _ (by rw [seal_len]; omega), if_pos (by omega), toB_ofB, Nat.add_sub_cancel_left] at h1
  apply hm
  have h3 : toB ((sealL E nonce l1 l2).getD (l2.length + i) 0) ^^^ 0#8 = toB ((sealL E nonce l1 l2).getD (l2.length + i) 0) ^^^ mask i := by rw [BitVec.xor_zero]; exact h1
  exact (xor_cancel h3).symm
/-- The nonce with its first k bytes turned. -/
def xorN (nonce mask : Nat → B) (k : Nat) : Nat → B := fun i => if i < k then nonce i ^^^ mask i else nonce i
theorem bad_nonce (hinj : ∀ {f g : Nat → B}, Eq16 (E f) (E g) → Eq16 f g) (mask : Nat → B) (h : otherN 12 0 mask 12 = true) : tagOk E (xorN nonce mask 12) l1 (sealL E nonce l1 l2) l2.length = false := by
  rw [Bool.eq_false_iff]
  intro hk
  unfold tagOk at hk
  rw [eq16_iff, take_seal] at hk
  have h1 := hk.trans (chunk_seal E nonce l1 l2)
  have h2 : Eq16 (E (ctr (xorN nonce mask 12) 1)) (E (ctr nonce 1)) := fun i hi => by
    have h3 : E (ctr (xorN nonce mask 12) 1) i ^^^ byteW _ i = E (ctr nonce 1) i ^^^ byteW _ i := h1 i hi
    rw [BitVec.xor_comm, BitVec.xor_comm (E (ctr nonce 1) i)] at h3
    exact xor_cancel h3
  have h3 := hinj h2
  obtain ⟨i, hi, _, hm⟩ := otherN_some _ _ _ _ h
  have h4 := h3 i (by omega)
  unfold ctr xorN at h4
  rw [if_pos hi, if_pos hi, if_pos hi] at h4
  apply hm
  have h5 : nonce i ^^^ mask i = nonce i ^^^ 0#8 := by rw [h4, BitVec.xor_zero]
  exact xor_cancel h5
theorem tag_unlike {e : Nat → B} {x y : W} (h : x ≠ y) : ¬ Eq16 (tagF e x) (tagF e y) := fun hk => by
  apply h
  apply byteW_inj
  intro q hq
  have h3 : e q ^^^ byteW x q = e q ^^^ byteW y q := hk q hq
  exact xor_cancel h3
/-- A long element of the text turned. -/
theorem bad_text (hH : blkW (E z16) ≠ 0#128) (mask : Nat → B) (a n : Nat) (hn : l2.length = n) (s : List Int) (hs : s = sealL E nonce l1 l2) (h : otherN n (16 * a) mask 16 = true) : tagOk E nonce l1 (turnN (s.take n) (16 * a) mask 16 ++ s.drop n) n = false := by
  subst hs hn
  rw [Bool.eq_false_iff]
  intro hk
  have hlen : (turnN ((sealL E nonce l1 l2).take l2.length) (16 * a) mask 16).length = l2.length := by rw [turnN_len, take_seal, body_len]
  have hc : Eq16 (chunk (turnN ((sealL E nonce l1 l2).take l2.length) (16 * a) mask 16 ++ (sealL E nonce l1 l2).drop l2.length) l2.length) (chunk (sealL E nonce l1 l2) l2.length) := fun i hi => by
    unfold chunk
    rw [List.getD_eq_getElem?_getD, List.getElem?_append_right (by rw [hlen]; omega), hlen, Nat.add_sub_cancel_left, List.getElem?_drop, ← List.getD_eq_getElem?_getD]
  unfold tagOk at hk
  rw [eq16_iff, List.take_append_of_le_length (by rw [hlen]; exact Nat.le_refl _), List.take_of_length_le (by rw [hlen]; exact Nat.le_refl _), take_seal] at hk
  exact tag_unlike (ghash_text hH l1 (bodyL E nonce l2) a mask (by rw [body_len]; exact h)) ((hk.trans (by rw [← take_seal E nonce l1 l2]; exact hc)).trans (chunk_seal E nonce l1 l2))
/-- A long element of what is sealed beside it turned. -/
theorem bad_ad (hH : blkW (E z16) ≠ 0#128) (mask : Nat → B) (a : Nat) (h : otherN l1.length (16 * a) mask 16 = true) : tagOk E nonce (turnN l1 (16 * a) mask 16) (sealL E nonce l1 l2) l2.length = false := by
  rw [Bool.eq_false_iff]
  intro hk
  unfold tagOk at hk
  rw [eq16_iff, take_seal] at hk
  exact tag_unlike (ghash_ad hH l1 (bodyL E nonce l2) a mask h) (hk.trans (chunk_seal E nonce l1 l2))
/-- H is nought only if its bytes are. -/
theorem blk_zero {f : Nat → B} (h : eq16 f z16 = false) : blkW f ≠ 0#128 := fun e => by
  rw [Bool.eq_false_iff] at h
  apply h
  rw [eq16_iff]
  apply blkW_inj
  rw [e]
  decide +kernel
/-- A Turn's cells. -/
def tuC (where_ at_ : Int) (mask : Nat → B) : Array Value := #[.int .i64 where_, .int .i64 at_] ++ cB 16 mask
theorem tuC_size (a b : Int) (m : Nat → B) : (tuC a b m).size = 18 := by simp [tuC, cB_size]
theorem tuC_mask (a b : Int) (m : Nat → B) (i : Nat) (hi : i < 16) : (tuC a b m)[2 + i]? = some (.int .u8 (ofB (m i))) := by
  unfold tuC
  rw [Array.getElem?_append_right (by simp), List.size_toArray]
  show (cB 16 m)[2 + i - 2]? = _
  rw [Nat.add_sub_cancel_left, cB_get 16 _ _ hi]
theorem tuC_0 (a b : Int) (m : Nat → B) : (tuC a b m)[0]? = some (.int .i64 a) := by unfold tuC; rw [Array.getElem?_append_left (by simp)]; rfl
theorem tuC_1 (a b : Int) (m : Nat → B) : (tuC a b m)[1]? = some (.int .i64 b) := by unfold tuC; rw [Array.getElem?_append_left (by simp)]; rfl
theorem tu_where {w : World} {b : Nat} {x y : Int} {m : Nat → B} {T : TypeId} (h : Blk.Is w b (tuC x y m) T) : w.cell? ⟨b, 0, none⟩ = some (.int .i64 x) := by rw [h.cell]; exact tuC_0 _ _ _
theorem tu_at {w : World} {b : Nat} {x y : Int} {m : Nat → B} {T : TypeId} (h : Blk.Is w b (tuC x y m) T) : w.cell? ⟨b, 1, none⟩ = some (.int .i64 y) := by rw [h.cell]; exact tuC_1 _ _ _
theorem tu_cell {w : World} {b : Nat} {x y : Int} {m : Nat → B} {T : TypeId} (h : Blk.Is w b (tuC x y m) T) (i : Nat) (hi : i < 16) : w.cell? ⟨b, 2 + i, none⟩ = some (.int .u8 (ofB (m i))) := by rw [h.cell]; exact tuC_mask _ _ _ i hi
theorem tu_mask {w : World} {b : Nat} {x y : Int} {m : Nat → B} {T : TypeId} (h : Blk.Is w b (tuC x y m) T) : (Blk.ld 37 (.pointer (some ⟨b, 2, none⟩))).run Try.prog w = .ok (.agg (cB 16 m)) w :=
  Gcm.ld_mid h 2 m _ _ (fun i hi => tuC_mask _ _ _ i hi) rfl Try.underlying37 (by kernel_rfl)
theorem st12 (x v : Value) : Instr.storeAt 23 x v = Blk.st 23 x v := rfl
theorem st12_new (w : World) (f : Nat → B) : (Blk.st 23 (.pointer (some ⟨w.heap.size, 0, none⟩)) (.agg (cB 12 f))).run Try.prog (w.alloc (.cells #[.int .u8 0, .int .u8 0, .int .u8 0, .int .u8 0, .int .u8 0, .int .u8 0, .int .u8 0, .int .u8 0, .int .u8 0, .int .u8 0, .int .u8 0, .int .u8 0] 23)) = .ok () (w.alloc (.cells (cB 12 f) 23)) :=
  run_storeAt_new w 23 _ _ (by rw [cB_size]; kernel_rfl) (by rw [cB_size]; rfl) (cB_one 12 f)
theorem ld12_is {w : World} {b : Nat} {f : Nat → B} {T : TypeId} (h : Blk.Is w b (cB 12 f) T) : (Blk.ld 23 (.pointer (some ⟨b, 0, none⟩))).run Try.prog w = .ok (.agg (cB 12 f)) w := Blk.load_row h (P := Try.prog) (t := 23) Try.underlying23 rfl (by rw [cB_size]; kernel_rfl)
theorem ld16_is {w : World} {b : Nat} {f : Nat → B} {T : TypeId} (h : Blk.Is w b (cB 16 f) T) : (Blk.ld 37 (.pointer (some ⟨b, 0, none⟩))).run Try.prog w = .ok (.agg (cB 16 f)) w := Blk.load_row h (P := Try.prog) (t := 37) Try.underlying37 rfl (by rw [cB_size]; kernel_rfl)
theorem xorN_zero (f m : Nat → B) : xorN f m 0 = f := by funext i; unfold xorN; rw [if_neg (by omega)]
theorem xorN_succ (f m : Nat → B) (k : Nat) : updB (xorN f m k) k (f k ^^^ m k) = xorN f m (k + 1) := by
  funext i
  unfold updB xorN
  by_cases e : i = k
  · subst e
    rw [if_pos rfl, if_pos (by omega)]
  · rw [if_neg e]
    by_cases h : i < k
    · rw [if_pos h, if_pos (by omega)]
    · rw [if_neg h, if_neg (by omega)]
open Go.RowKit Go.Proofs.YtbebmbcjddibaaaW.PrintWords Go.Proofs.YtbebmbcjddibaaaW.PrintLast Go.Proofs.YtbebmbcjddibaaaW.PrintMore in
theorem Txt.drop {w : World} {ad : Addr} {c : Nat} {l : List Int} (h : Txt w (some ad) c l) (n : Nat) (hn : n < l.length) : Kd.C (Kd.int .u8) w (some (ad.add n)) (l.drop n).length (l.drop n) := by
  have hr := Kd.reads_of_C (d := (0 : Int)) h.row
  have hle := h.le
  have h2 := ReadsOf.drop_ hr (c := c) n (by omega) (by omega)
  rw [if_neg (by omega)] at h2
  rw [List.length_drop]
  exact Kd.C_of_reads (d := (0 : Int)) (h1 := fun _ => rfl) h2
end Go.Proofs.Ytbebmbcjddibaaa.Gcm
