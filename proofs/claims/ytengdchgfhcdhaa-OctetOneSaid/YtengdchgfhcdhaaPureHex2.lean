/- What is said here: the reference's Unhex reads what octet.Unhex reads; the reference's Hex tells what octet.Hex tells; octet.Equal says what is equal. -/
import Derived.Test.YtengdchgfhcdhaaPureHex
namespace Go.Proofs.Ytengdchgfhcdhaa.PureHex
set_option linter.unusedVariables false
set_option linter.unusedSimpArgs false
open Go.RowKit Go.Proofs.YtengdchgfhcdhaaW.PrintWords Go.Proofs.YtengdchgfhcdhaaW.PrintLast Go.Proofs.YtengdchgfhcdhaaW.PrintMore

theorem refU_bad (s : ByteArray) (hN : s.size ≤ 1000000) (m : Nat) : ∀ i : Nat, i + m = s.size → (∃ q, i ≤ q ∧ q < s.size ∧ hs s q = 16) → ∀ (k : Nat), m + 1 ≤ k →
    PU.ciboriumref01_Unhex.l0 k s (i : Int) = some ([], 11) := by
  induction m with
  | zero => intro i hi ⟨q, h1, h2, _⟩; omega
  | succ m ih =>
    intro i hi ⟨q, h1, h2, h3⟩ k hk
    obtain ⟨k, rfl⟩ : ∃ k', k = k' + 1 := ⟨k - 1, by omega⟩
    have hb := bt_range s (i : Int)
    rw [PU.ciboriumref01_Unhex.l0, if_pos (by omega), if_pos (by omega), value_f _ hb.1 hb.2 k (by omega), Option.bind_some, IntWalk.wrap64_in ((i : Int) + 1) (by omega)]
    by_cases h4 : hv (bt s (i : Int)) = 16
    · rw [if_pos h4, if_neg (by decide)]
    · rw [if_neg h4, if_pos rfl]
      have hq : i + 1 ≤ q := by
        rcases Nat.lt_or_ge i q with h | h
        · exact h
        · obtain rfl : i = q := by omega
          exact absurd h3 h4
      exact ih (i + 1) (by omega) ⟨q, hq, h2, h3⟩ k (by omega)
theorem refU_ok (s : ByteArray) (hN : s.size ≤ 1000000) (hd : ∀ q, q < s.size → hs s q ≠ 16) (m : Nat) : ∀ i : Nat, i + m = s.size → ∀ (k : Nat), 1 ≤ k →
    PU.ciboriumref01_Unhex.l0 (k + m + 1) s (i : Int) = (if ((s.size : Int) % 2) = 1 then (some (([] : List Int), 10)) else (PU.ciboriumref01_Unhex.l1 k s ([] : List Int) 0)) := by
  induction m with
  | zero =>
    intro i hi k hk
    rw [Nat.add_zero, PU.ciboriumref01_Unhex.l0, if_neg (by omega)]
  | succ m ih =>
    intro i hi k hk
    have hb := bt_range s (i : Int)
    rw [show k + (m + 1) + 1 = (k + m + 1) + 1 by omega, PU.ciboriumref01_Unhex.l0, if_pos (by omega), if_pos (by omega), value_f _ hb.1 hb.2 _ (by omega), Option.bind_some, IntWalk.wrap64_in ((i : Int) + 1) (by omega), if_neg (show ¬ hv (bt s (i : Int)) = 16 from hd i (by omega)), if_pos rfl]
    exact ih (i + 1) (by omega) k hk
theorem refU_l1 (s : ByteArray) (hN : s.size ≤ 1000000) (M : Nat) (hM : s.size = 2 * M) (hd : ∀ q, q < s.size → hs s q ≠ 16) (m : Nat) : ∀ j : Nat, j + m = M → ∀ (k : Nat), m + 2 ≤ k →
    PU.ciboriumref01_Unhex.l1 k s (unL s j) ((2 * j : Nat) : Int) = some (unL s M, 0) := by
  induction m with
  | zero =>
    intro j hj k hk
    obtain ⟨k, rfl⟩ : ∃ k', k = k' + 1 := ⟨k - 1, by omega⟩
    obtain rfl : j = M := by omega
    rw [PU.ciboriumref01_Unhex.l1, if_neg (by omega)]
  | succ m ih =>
    intro j hj k hk
    obtain ⟨k, rfl⟩ : ∃ k', k = k' + 1 := ⟨k - 1, by omega⟩
    have hb := bt_range s ((2 * j : Nat) : Int)
    have hb2 := bt_range s ((2 * j + 1 : Nat) : Int)
    have d0 : ¬ hv (bt s ((2 * j : Nat) : Int)) = 16 := hd (2 * j) (by omega)
    have d1 : ¬ hv (bt s ((2 * j + 1 : Nat) : Int)) = 16 := hd (2 * j + 1) (by omega)
    have g0 := hv_range (bt s ((2 * j : Nat) : Int))
    have g1 := hv_range (bt s ((2 * j + 1 : Nat) : Int))
    have e : (16 * hv (bt s ((2 * j : Nat) : Int)) + hv (bt s ((2 * j + 1 : Nat) : Int))) % 256 = 16 * hs s (2 * j) + hs s (2 * j + 1) := by unfold hs; omega
    rw [PU.ciboriumref01_Unhex.l1, if_pos (by omega), if_pos (by omega), value_f _ hb.1 hb.2 k (by omega), Option.bind_some, if_neg d0, IntWalk.wrap64_in (((2 * j : Nat) : Int) + 1) (by omega), show ((2 * j : Nat) : Int) + 1 = ((2 * j + 1 : Nat) : Int) by omega, if_pos (by omega), if_pos (by omega), value_f _ hb2.1 hb2.2 k (by omega), Option.bind_some, if_neg d1, if_pos (by rw [unL_length]; omega), IntWalk.wrap64_in _ (by omega)]
    show PU.ciboriumref01_Unhex.l1 k s (unL s j ++ [(16 * hv (bt s ((2 * j : Nat) : Int)) + hv (bt s ((2 * j + 1 : Nat) : Int))) % 256]) _ = _
    rw [e, show ((2 * j : Nat) : Int) + 2 = ((2 * (j + 1) : Nat) : Int) by omega]
    exact ih (j + 1) (by omega) k (by omega)

/-- Both read the same. -/
theorem unhex_both (s : ByteArray) (hN : s.size ≤ 1000000) : ∃ r1 r2 K, (∀ k, K ≤ k → PA.octet_Unhex.f k s = some (r1, r2) ∧ PU.ciboriumref01_Unhex.f k s = some (r1, r2)) ∧ r1.length ≤ 1000000 := by
  have hi2 : (s.size : Int) / 2 = ((s.size / 2 : Nat) : Int) := by omega
  have hU : ∀ k, PA.octet_Unhex.f k s = PA.octet_Unhex.l0 k s (List.replicate (s.size / 2) 0) (s.size : Int) 0 := fun k => by
    rw [PA.octet_Unhex.f, hi2, IntWalk.wrap64_in _ (by omega), if_pos (by omega), if_pos (by omega), Int.toNat_natCast]
  by_cases hbad : ∃ q, 0 ≤ q ∧ q < s.size ∧ hs s q = 16
  · refine ⟨[], 11, s.size + 1, fun k hk => ⟨?_, ?_⟩, by simp⟩
    · rw [hU]; exact octU_bad s hN s.size 0 (by omega) hbad _ k hk
    · exact refU_bad s hN s.size 0 (by omega) hbad k hk
  · have hd : ∀ q, q < s.size → hs s q ≠ 16 := fun q hq h => hbad ⟨q, Nat.zero_le _, hq, h⟩
    by_cases ho : s.size % 2 = 1
    · refine ⟨[], 10, s.size + 2, fun k hk => ⟨?_, ?_⟩, by simp⟩
      · rw [hU]; exact octU_odd s hN ho hd s.size 0 (by omega) _ k hk
      · obtain ⟨k, rfl⟩ : ∃ k', k = k' + s.size + 1 := ⟨k - s.size - 1, by omega⟩
        show PU.ciboriumref01_Unhex.l0 _ s ((0 : Nat) : Int) = _
        rw [refU_ok s hN hd s.size 0 (by omega) k (by omega), if_pos (by omega)]
    · obtain ⟨M, hM⟩ : ∃ M, s.size = 2 * M := ⟨s.size / 2, by omega⟩
      refine ⟨unL s M, 0, 2 * s.size + 10, fun k hk => ⟨?_, ?_⟩, by rw [unL_length]; omega⟩
      · rw [hU, show s.size / 2 = M by omega]
        exact octU_even s hN M hM hd M 0 (by omega) k (by omega)
      · obtain ⟨k, rfl⟩ : ∃ k', k = k' + s.size + 1 := ⟨k - s.size - 1, by omega⟩
        show PU.ciboriumref01_Unhex.l0 _ s ((0 : Nat) : Int) = _
        rw [refU_ok s hN hd s.size 0 (by omega) k (by omega), if_neg (by omega)]
        exact refU_l1 s hN M hM hd M 0 (by omega) k (by omega)

/-- The reference's Hex. -/
theorem refhalf (n : Int) (h0 : 0 ≤ n) (h1 : n < 16) : PA.ciboriumref01_half.f n = some (Hex.dig n) := by
  have h : ∀ m : Fin 16, PA.ciboriumref01_half.f ((m.val : Nat) : Int) = some (Hex.dig ((m.val : Nat) : Int)) := by decide +kernel
  have := h ⟨n.toNat, by omega⟩
  simpa only [Int.toNat_of_nonneg h0] using this
theorem refHex (b : List Int) (hb : ∀ x ∈ b, 0 ≤ x ∧ x < 256) (hN : b.length ≤ 1000000) (m : Nat) : ∀ i : Nat, i + m = b.length → ∀ k, m + 1 ≤ k →
    PA.ciboriumref01_Hex.l0 k b (Hex.hexL (b.take i)) (i : Int) = some (strOfNums (Hex.hexL b)) := by
  induction m with
  | zero =>
    intro i hi k hk
    obtain ⟨k, rfl⟩ : ∃ k', k = k' + 1 := ⟨k - 1, by omega⟩
    rw [PA.ciboriumref01_Hex.l0, if_neg (by omega), show i = b.length by omega, List.take_length]
  | succ m ih =>
    intro i hi k hk
    obtain ⟨k, rfl⟩ : ∃ k', k = k' + 1 := ⟨k - 1, by omega⟩
    have hx := hb _ (List.getElem_mem (show i < b.length by omega))
    have hr : rd b (i : Int) = b[i]'(by omega) := by
      unfold rd
      rw [Int.toNat_natCast, List.getD_eq_getElem?_getD, List.getElem?_eq_getElem (by omega)]
      rfl
    have hl : (Hex.hexL (b.take i)).length ≤ 2000000 := by rw [Hex.hexL_length, List.length_take]; omega
    have e1 : Int.tdiv b[i] 16 % 256 = b[i] / 16 := by rw [Int.tdiv_eq_ediv_of_nonneg hx.1]; omega
    have e2 : Int.tmod b[i] 16 = b[i] % 16 := Int.tmod_eq_emod_of_nonneg hx.1
    rw [PA.ciboriumref01_Hex.l0, if_pos (by omega), if_pos (by omega), hr, e1, e2, refhalf _ (by omega) (by omega), Option.bind_some, refhalf _ (by omega) (by omega), Option.bind_some, Option.bind_some, if_pos (Nat.lt_of_le_of_lt (Nat.add_le_add_right hl _) (by simp)), IntWalk.wrap64_in _ (by omega), ← Hex.hexL_snoc, ← List.take_succ_eq_append_getElem]
    exact ih (i + 1) (by omega) k (by omega)

/-- octet.Equal. -/
theorem toB (x : Int) (h : 0 ≤ x ∧ x < 256) : ∃ b : BitVec 8, x = (b.toNat : Int) ∧ BitVec.ofInt IntKind.u8.bits x = b := by
  obtain ⟨n, rfl⟩ := Int.eq_ofNat_of_zero_le h.1
  refine ⟨BitVec.ofNat 8 n, ?_, ?_⟩
  · rw [BitVec.toNat_ofNat, Nat.mod_eq_of_lt (by omega)]
  · exact BitVec.ofInt_natCast 8 n
theorem xor0 (a b : Int) (ha : 0 ≤ a ∧ a < 256) (hb : 0 ≤ b ∧ b < 256) : (0 ≤ Go.bits .xor .u8 a b ∧ Go.bits .xor .u8 a b < 256) ∧ (Go.bits .xor .u8 a b = 0 ↔ a = b) := by
  obtain ⟨x, rfl, hx⟩ := toB a ha
  obtain ⟨y, rfl, hy⟩ := toB b hb
  have e : Go.bits .xor .u8 (x.toNat : Int) (y.toNat : Int) = ((x ^^^ y).toNat : Int) := by
    unfold Go.bits
    simp only [hx, hy, IntKind.wrap_u8]
    show ((x ^^^ y).toNat : Int) % 256 = ((x ^^^ y).toNat : Int)
    have := (x ^^^ y).isLt
    omega
  rw [e]
  have hl := (x ^^^ y).isLt
  refine ⟨⟨by omega, by omega⟩, ?_, ?_⟩
  · intro h
    have h0 : x ^^^ y = 0#8 := BitVec.eq_of_toNat_eq (by simpa using h)
    have h1 : (x ^^^ y) ^^^ y = x := by rw [BitVec.xor_assoc, BitVec.xor_self, BitVec.xor_zero]
    rw [h0, BitVec.zero_xor] at h1
    rw [h1]
  · intro h
    have h0 : x = y := BitVec.eq_of_toNat_eq (by omega)
    rw [h0, BitVec.xor_self]
    rfl
theorem or0 (a b : Int) (ha : 0 ≤ a ∧ a < 256) (hb : 0 ≤ b ∧ b < 256) : (0 ≤ Go.bits .or .u8 a b ∧ Go.bits .or .u8 a b < 256) ∧ (Go.bits .or .u8 a b = 0 ↔ a = 0 ∧ b = 0) := by
  obtain ⟨x, rfl, hx⟩ := toB a ha
  obtain ⟨y, rfl, hy⟩ := toB b hb
  have e : Go.bits .or .u8 (x.toNat : Int) (y.toNat : Int) = ((x ||| y).toNat : Int) := by
    unfold Go.bits
    simp only [hx, hy, IntKind.wrap_u8]
    show ((x ||| y).toNat : Int) % 256 = ((x ||| y).toNat : Int)
    have := (x ||| y).isLt
    omega
  rw [e]
  have hl := (x ||| y).isLt
  refine ⟨⟨by omega, by omega⟩, ?_⟩
  rw [BitVec.toNat_or]
  have := @Nat.or_eq_zero_iff x.toNat y.toNat
  omega
theorem equal_f (a b : List Int) (ha : ∀ x ∈ a, 0 ≤ x ∧ x < 256) (hb : ∀ x ∈ b, 0 ≤ x ∧ x < 256) (hl : a.length = b.length) (hN : a.length ≤ 1000000000) (m : Nat) : ∀ i : Nat, i + m = a.length → ∀ (x : Int), 0 ≤ x ∧ x < 256 → ∀ k, m + 1 ≤ k →
    PA.octet_Equal.l0 k a b x (a.length : Int) (i : Int) = some (decide (x = 0 ∧ a.drop i = b.drop i)) := by
  induction m with
  | zero =>
    intro i hi x hx k hk
    obtain ⟨k, rfl⟩ : ∃ k', k = k' + 1 := ⟨k - 1, by omega⟩
    rw [PA.octet_Equal.l0, if_neg (by omega), List.drop_eq_nil_of_le (by omega), List.drop_eq_nil_of_le (by omega)]
    congr 1
    rw [Bool.eq_iff_iff]
    simp
  | succ m ih =>
    intro i hi x hx k hk
    obtain ⟨k, rfl⟩ : ∃ k', k = k' + 1 := ⟨k - 1, by omega⟩
    have hra : rd a (i : Int) = a[i]'(by omega) := by
      unfold rd
      rw [Int.toNat_natCast, List.getD_eq_getElem?_getD, List.getElem?_eq_getElem (by omega)]
      rfl
    have hrb : rd b (i : Int) = b[i]'(by omega) := by
      unfold rd
      rw [Int.toNat_natCast, List.getD_eq_getElem?_getD, List.getElem?_eq_getElem (by omega)]
      rfl
    have hxo := xor0 (a[i]'(by omega)) (b[i]'(by omega)) (ha _ (List.getElem_mem _)) (hb _ (List.getElem_mem _))
    have hor := or0 x _ hx hxo.1
    rw [PA.octet_Equal.l0, if_pos (by omega), if_pos (by omega), if_pos (by omega), if_pos (by omega), hra, hrb, IntWalk.wrap64_in _ (by omega)]
    have := ih (i + 1) (by omega) _ hor.1 k (by omega)
    rw [show ((i + 1 : Nat) : Int) = (i : Int) + 1 by omega] at this
    rw [this]
    congr 1
    rw [Bool.eq_iff_iff, decide_eq_true_eq, decide_eq_true_eq, hor.2, hxo.2, List.drop_eq_getElem_cons (show i < a.length by omega), List.drop_eq_getElem_cons (show i < b.length by omega), List.cons.injEq]
    exact ⟨fun h => ⟨h.1.1, h.1.2, h.2⟩, fun h => ⟨⟨h.1, h.2.1⟩, h.2.2⟩⟩
theorem equal_both (a b : List Int) (ha : ∀ x ∈ a, 0 ≤ x ∧ x < 256) (hb : ∀ x ∈ b, 0 ≤ x ∧ x < 256) (hN : a.length ≤ 1000000000) (k : Nat) (hk : a.length + 1 ≤ k) : PA.octet_Equal.f k a b = some (decide (a = b)) := by
  unfold PA.octet_Equal.f
  by_cases hl : a.length = b.length
  · rw [if_pos (by omega)]
    have := equal_f a b ha hb hl hN a.length 0 (by omega) 0 (by omega) k hk
    rw [show ((0 : Nat) : Int) = 0 from rfl] at this
    rw [this]
    simp
  · rw [if_neg (by omega), decide_eq_false (fun h => hl (by rw [h]))]
end Go.Proofs.Ytengdchgfhcdhaa.PureHex
