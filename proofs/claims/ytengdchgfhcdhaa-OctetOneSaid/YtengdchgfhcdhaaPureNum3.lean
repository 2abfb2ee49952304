/- What is said here: the reference's Number reads what octet.Number reads: the whole. -/
import Derived.Test.YtengdchgfhcdhaaPureNum2
namespace Go.Proofs.Ytengdchgfhcdhaa.PureNum
set_option linter.unusedVariables false
set_option linter.unusedSimpArgs false
open Go.RowKit Go.Proofs.YtengdchgfhcdhaaW.PrintWords Go.Proofs.YtengdchgfhcdhaaW.PrintLast Go.Proofs.YtengdchgfhcdhaaW.PrintMore Go.Proofs.Ytengdchgfhcdhaa.Digits

def va (u : Int) (l : List UInt8) : Int := l.foldl (fun v x => 10 * v + ((x.toNat : Int) - 48)) u
def dig (x : UInt8) : Prop := 48 ≤ (x.toNat : Int) ∧ (x.toNat : Int) ≤ 57
theorem va_far (a : List UInt8) : ∀ (b : List UInt8) (u v : Int), a.length = b.length → (∀ x ∈ a, dig x) → (∀ x ∈ b, dig x) → u < v → va u a < va v b := by
  induction a with
  | nil =>
    intro b u v hl _ _ h
    cases b with
    | nil => exact h
    | cons y b => simp at hl
  | cons x a ih =>
    intro b u v hl ha hb h
    cases b with
    | nil => simp at hl
    | cons y b =>
      have h1 := ha x (by simp)
      have h2 := hb y (by simp)
      unfold dig at h1 h2
      exact ih b _ _ (by simpa using hl) (fun z hz => ha z (by simp [hz])) (fun z hz => hb z (by simp [hz])) (by show 10 * u + ((x.toNat : Int) - 48) < 10 * v + ((y.toNat : Int) - 48); omega)
theorem less_va (a : List UInt8) : ∀ (b : List UInt8) (u : Int), a.length = b.length → (∀ x ∈ a, dig x) → (∀ x ∈ b, dig x) → (Op.bytesLess a b = true ↔ va u a < va u b) := by
  induction a with
  | nil =>
    intro b u hl _ _
    cases b with
    | nil => simp [Op.bytesLess, va]
    | cons y b => simp at hl
  | cons x a ih =>
    intro b u hl ha hb
    cases b with
    | nil => simp at hl
    | cons y b =>
      have h1 := ha x (by simp)
      have h2 := hb y (by simp)
      unfold dig at h1 h2
      have hl' : a.length = b.length := by simpa using hl
      have ha' : ∀ z ∈ a, dig z := fun z hz => ha z (by simp [hz])
      have hb' : ∀ z ∈ b, dig z := fun z hz => hb z (by simp [hz])
      have h3 := @UInt8.lt_iff_toNat_lt x y
      have h4 := @UInt8.toNat_inj x y
      show (decide (x < y) || (x == y && Op.bytesLess a b)) = true ↔ va (10 * u + ((x.toNat : Int) - 48)) a < va (10 * u + ((y.toNat : Int) - 48)) b
      rcases (by rw [h3, ← h4]; omega : x < y ∨ x = y ∨ y.toNat < x.toNat) with g | g | g
      · have := h3.mp g
        simp only [g, decide_true, Bool.true_or, true_iff]
        exact va_far a b _ _ hl' ha' hb' (by omega)
      · subst g
        have := ih b (10 * u + ((x.toNat : Int) - 48)) hl' ha' hb'
        simp [this, UInt8.lt_irrefl]
      · have g1 : ¬ x < y := by rw [h3]; omega
        have g2 : (x == y) = false := by rw [beq_eq_false_iff_ne]; intro e; subst e; omega
        have g3 := va_far b a (10 * u + ((y.toNat : Int) - 48)) (10 * u + ((x.toNat : Int) - 48)) hl'.symm hb' ha' (by omega)
        simp [g1, g2]
        omega

theorem bt_list (s : ByteArray) (i : Nat) (h : i < s.toList.length) : bt s (i : Int) = ((s.toList[i]).toNat : Int) := by
  have e : s.toList = s.data.toList := ByteArray.toList_eq s
  have hs : s.toList.length = s.size := by rw [e, Array.length_toList]; rfl
  unfold bt
  rw [dif_pos (by rw [Int.toNat_natCast]; omega)]
  simp only [Int.toNat_natCast]
  congr 2
  simp only [e, Array.getElem_toList]
  rfl
theorem pv_va (s : ByteArray) (i : Nat) (h : i ≤ s.toList.length) : pv (dg s) i = va 0 (s.toList.take i) := by
  induction i with
  | zero => rfl
  | succ i ih =>
    rw [pv, ih (by omega), List.take_succ_eq_append_getElem (by omega), va, va, List.foldl_append, dg, bt_list s i (by omega)]
    rfl
def most : List UInt8 := [49, 56, 52, 52, 54, 55, 52, 52, 48, 55, 51, 55, 48, 57, 53, 53, 49, 54, 49, 53]
theorem most_va : va 0 most = 18446744073709551615 := by decide +kernel

theorem pow10 {a b : Nat} (h : a ≤ b) : (10 : Int) ^ a ≤ 10 ^ b := by
  have := Nat.pow_le_pow_right (show 10 > 0 by decide) h
  exact_mod_cast this
/-- Which texts are too great. -/
theorem wide_iff (s : ByteArray) (hd : ∀ q, q < s.size → isD s q) (hz : 1 < s.size → dg s 0 ≠ 0) :
    (18446744073709551615 < pv (dg s) s.size ↔ (20 < s.size ∨ (s.size = 20 ∧ Op.bytesLess most s.toList = true))) := by
  have e : s.toList = s.data.toList := ByteArray.toList_eq s
  have hs : s.toList.length = s.size := by rw [e, Array.length_toList]; rfl
  have hn : ∀ i, i < s.size → 0 ≤ dg s i ∧ dg s i ≤ 9 := fun i hi => by have := hd i hi; unfold isD at this; unfold dg; omega
  by_cases h1 : 20 < s.size
  · refine ⟨fun _ => .inl h1, fun _ => ?_⟩
    obtain ⟨n, hn1⟩ : ∃ n, s.size = n + 1 := ⟨s.size - 1, by omega⟩
    have h2 := pv_ge (dg s) n (fun i hi => (hn i (by omega)).1) (by have := hz (by omega); have := (hn 0 (by omega)).1; omega)
    rw [hn1]
    have h3 : (10 : Int) ^ 20 ≤ 10 ^ n := pow10 (by omega)
    have h4 : (18446744073709551615 : Int) < 10 ^ 20 := by decide
    exact Int.lt_of_lt_of_le h4 (Int.le_trans h3 h2)
  · by_cases h2 : s.size = 20
    · have h3 : va 0 s.toList = pv (dg s) s.size := by rw [pv_va s s.size (by omega), ← hs, List.take_length]
      have h4 : ∀ x ∈ s.toList, dig x := by
        intro x hx
        obtain ⟨i, hi, rfl⟩ := List.getElem_of_mem hx
        have := hd i (by omega)
        unfold isD at this
        rw [bt_list s i hi] at this
        exact this
      have h5 := less_va most s.toList 0 (by rw [hs, h2]; rfl) (by unfold dig; decide) h4
      rw [most_va, h3] at h5
      rw [← h5]
      exact ⟨fun h => .inr ⟨h2, h⟩, fun h => h.elim (fun h => absurd h h1) (fun h => h.2)⟩
    · have h3 := pv_lt (dg s) s.size hn
      have h4 : (10 : Int) ^ s.size ≤ 10 ^ 19 := pow10 (by omega)
      have h5 : (10 : Int) ^ 19 < 18446744073709551615 := by decide
      constructor
      · intro h
        exact absurd (Int.lt_of_lt_of_le h3 h4) (Int.not_lt.mpr (Int.le_of_lt (Int.lt_trans h5 h)))
      · rintro (h | ⟨h, _⟩)
        · exact absurd h h1
        · exact absurd h h2

/-- Both read the same. -/
theorem number_both (s : ByteArray) (hN : s.size ≤ 1000000) : ∃ r1 r2 K, ∀ k, K ≤ k → PA.octet_Number.f k s = some (r1, r2) ∧ PN.ciboriumref01_Number.f k s = some (r1, r2) := by
  have e : s.toList = s.data.toList := ByteArray.toList_eq s
  have hs : s.toList.length = s.size := by rw [e, Array.length_toList]; rfl
  by_cases h0 : s.size = 0
  · refine ⟨0, 10, 0, fun k _ => ⟨?_, ?_⟩⟩
    · rw [PA.octet_Number.f, if_pos (List.eq_nil_of_length_eq_zero (by omega))]
    · rw [PN.ciboriumref01_Number.f, if_pos (by omega)]
  · have hne : ¬ s.toList = [] := fun h => by rw [h] at hs; simp at hs; omega
    by_cases hbad : ∃ q, 0 ≤ q ∧ q < s.size ∧ ¬ isD s q
    · refine ⟨0, 11, s.size, fun k hk => ⟨?_, ?_⟩⟩
      · rw [PA.octet_Number.f, if_neg hne]
        exact octL0_bad s hN s.size 0 (by omega) hbad 0 k hk
      · rw [PN.ciboriumref01_Number.f, if_neg (by omega)]
        exact refL0_bad s hN s.size 0 (by omega) hbad k hk
    · have hd : ∀ q, q < s.size → isD s q := fun q hq => Classical.byContradiction fun h => hbad ⟨q, Nat.zero_le _, hq, h⟩
      have hL : ∀ k, PA.octet_Number.f (k + s.size + 1) s = (if 0 < (s.size : Int) then (if (bt s 0) = 48 then (PA.octet_Number.j1 k s 0 (decide ((s.size : Int) > 1))) else (PA.octet_Number.j1 k s 0 false)) else none) := fun k => by
        rw [PA.octet_Number.f, if_neg hne]
        exact octL0 s hN s.size 0 (by omega) (fun q _ h => hd q h) 0 k
      have hR : ∀ k, PN.ciboriumref01_Number.f (k + s.size + 1) s = (if (s.size : Int) > 1 then (if 0 < (s.size : Int) then (PN.ciboriumref01_Number.j1 k s ((bt s 0) == 48)) else (none)) else (PN.ciboriumref01_Number.j1 k s false)) := fun k => by
        rw [PN.ciboriumref01_Number.f, if_neg (by omega)]
        exact refL0 s hN s.size 0 (by omega) (fun q _ h => hd q h) k
      have hpos : 0 < (s.size : Int) := by omega
      by_cases hlead : 1 < s.size ∧ bt s 0 = 48
      · refine ⟨0, 11, s.size + 2, fun k hk => ?_⟩
        obtain ⟨k, rfl⟩ : ∃ k', k = (k' + 1) + s.size + 1 := ⟨k - s.size - 2, by omega⟩
        rw [hL, hR, if_pos hpos, if_pos hlead.2, if_pos (by omega), if_pos hpos]
        have e1 : decide ((s.size : Int) > 1) = true := decide_eq_true (by omega)
        have e2 : (bt s 0 == 48) = true := beq_iff_eq.mpr hlead.2
        rw [e1, e2, PA.octet_Number.j1, if_pos rfl, PN.ciboriumref01_Number.j1, if_pos rfl]
        exact ⟨rfl, rfl⟩
      · have hL2 : ∀ k, PA.octet_Number.f (k + s.size + 1) s = PA.octet_Number.j1 k s 0 false := fun k => by
          rw [hL, if_pos hpos]
          by_cases h : bt s 0 = 48
          · rw [if_pos h, decide_eq_false (by omega)]
          · rw [if_neg h]
        have hR2 : ∀ k, PN.ciboriumref01_Number.f (k + s.size + 1) s = PN.ciboriumref01_Number.j1 k s false := fun k => by
          rw [hR]
          by_cases h : (s.size : Int) > 1
          · rw [if_pos h, if_pos hpos]
            have e2 : (bt s 0 == 48) = false := beq_eq_false_iff_ne.mpr fun h2 => hlead ⟨by omega, h2⟩
            rw [e2]
          · rw [if_neg h]
        have hw := wide_iff s hd (fun h h2 => hlead ⟨h, by unfold dg at h2; have : bt s ((0 : Nat) : Int) = bt s 0 := rfl; omega⟩)
        have hl1 : ∀ k, PA.octet_Number.j1 (k + 1) s 0 false = PA.octet_Number.l1 k s 0 (s.size : Int) 0 := fun k => by rw [PA.octet_Number.j1, if_neg (by decide)]
        by_cases hv : pv (dg s) s.size ≤ 18446744073709551615
        · have hnw : ¬ (20 < s.size ∨ (s.size = 20 ∧ Op.bytesLess most s.toList = true)) := fun h => by have := hw.mpr h; omega
          refine ⟨pv (dg s) s.size, 0, 2 * s.size + 10, fun k hk => ?_⟩
          obtain ⟨k, rfl⟩ : ∃ k', k = (k' + 2) + s.size + 1 := ⟨k - s.size - 3, by omega⟩
          refine ⟨?_, ?_⟩
          · rw [hL2, hl1]
            exact octL1 s hN hd hv s.size 0 (by omega) _ (by omega)
          · rw [hR2, PN.ciboriumref01_Number.j1, if_neg (by decide), if_neg (by omega)]
            have hl : PN.ciboriumref01_Number.l1 k s 0 0 = some (pv (dg s) s.size, 0) := refL1 s hN hd hv s.size 0 (by omega) _ (by omega)
            by_cases h20 : (s.size : Int) = 20
            · have : Op.bytesLess most s.toList = false := by
                cases h : Op.bytesLess most s.toList with
                | false => rfl
                | true => exact absurd (.inr ⟨by omega, h⟩) hnw
              rw [if_pos h20]
              show PN.ciboriumref01_Number.j2 (k + 1) s (Op.bytesLess most s.toList) = _
              rw [this, PN.ciboriumref01_Number.j2, if_neg (by decide), hl]
            · rw [if_neg h20, PN.ciboriumref01_Number.j2, if_neg (by decide), hl]
        · have hw2 := hw.mp (by omega)
          refine ⟨0, 12, 2 * s.size + 10, fun k hk => ?_⟩
          obtain ⟨k, rfl⟩ : ∃ k', k = (k' + 2) + s.size + 1 := ⟨k - s.size - 3, by omega⟩
          refine ⟨?_, ?_⟩
          · rw [hL2, hl1]
            exact octL1_wide s hN hd (by omega) s.size 0 (by omega) (by show (0 : Int) ≤ _; decide) _ (by omega)
          · rw [hR2, PN.ciboriumref01_Number.j1, if_neg (by decide)]
            by_cases h20 : (s.size : Int) > 20
            · rw [if_pos h20, PN.ciboriumref01_Number.j2, if_pos rfl]
            · have h2 : s.size = 20 ∧ Op.bytesLess most s.toList = true := hw2.resolve_left (by omega)
              rw [if_neg h20, if_pos (by omega)]
              show PN.ciboriumref01_Number.j2 (k + 1) s (Op.bytesLess most s.toList) = _
              rw [h2.2, PN.ciboriumref01_Number.j2, if_pos rfl]
end Go.Proofs.Ytengdchgfhcdhaa.PureNum
