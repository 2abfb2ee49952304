/- What is said here: the document's Split and the program's make the same shares, or the same error: as whole numbers and lists alone. -/
import Derived.Test.YtglnepokollijaaPTx1
import Derived.Test.YtglnepokollijaaPTx3
import Derived.Test.YtglnepokollijaaPTx5
import Derived.Test.YtglnepokollijaaAEvM
namespace Go.Proofs.Ytglnepokollijaa.PureSplit
set_option linter.unusedVariables false
set_option linter.unusedSimpArgs false
open Go.RowKit Go.Proofs.Ytglnepokollijaa.PT Go.Proofs.YtglnepokollijaaW.PrintWords Go.Proofs.YtglnepokollijaaW.PrintLast
open Gf Gfi Poly Share

theorem wrap_k (kk : Nat) (h1 : 1 ≤ kk) (h2 : kk ≤ 16) : wrap64 ((kk : Int) - 1) = ((kk - 1 : Nat) : Int) := by
  rw [IntWalk.wrap64_in _ (by omega)]; omega
theorem wrap_m (m j : Nat) (h1 : m ≤ 15) (h2 : j ≤ 1025) : wrap64 ((m : Int) * (j : Int)) = ((m * j : Nat) : Int) := by
  have := Nat.mul_le_mul h1 h2
  rw [← Int.natCast_mul, IntWalk.wrap64_in _ (by omega)]
theorem wrap_s (j : Nat) (h : j ≤ 1000000) : wrap64 ((j : Int) + 1) = ((j + 1 : Nat) : Int) := by
  rw [IntWalk.wrap64_in _ (by omega)]; omega
theorem rd_ints (bs : List B) (j : Nat) : rd (ints bs) (j : Int) = ofB (bs.getD j 0#8) := by
  unfold rd
  rw [Int.toNat_natCast, ints_getD]
theorem ints_app (a b : List B) : ints a ++ ints b = ints (a ++ b) := by unfold ints; rw [List.map_append]
theorem yr_end (bs ds : List B) (k : Nat) (x : B) : yr bs ds k x bs.length = ints ((List.range bs.length).map (yb bs ds k x)) := by
  unfold yr; rw [Nat.sub_self, List.replicate_zero, List.append_nil]
variable {bs ds : List B} {n kk : Nat}
theorem l1_f (h1 : 1 ≤ kk) (h2 : kk ≤ 16) (hL : bs.length ≤ 1024) (hD : ds.length = (kk - 1) * bs.length) (q : Nat) (hq : q < 16) (acc : List S44) (ha : acc.length ≤ 100) {r : List S44 × Int}
    (hr : ∃ K, ∀ k, K ≤ k → ciboriumref04_Split.l0 k (ints bs) (n : Int) (kk : Int) (ints ds) (acc ++ [⟨(q : Int) + 1, yr bs ds kk (xB q) bs.length⟩]) (((q + 1 : Nat) : Int) + 1) = some r) (m : Nat) :
    ∀ j, j + m = bs.length → ∃ K, ∀ k, K ≤ k → ciboriumref04_Split.l1 k (ints bs) (n : Int) (kk : Int) (ints ds) acc ((q : Int) + 1) (ints ((List.range j).map (yb bs ds kk (xB q)))) (j : Int) = some r := by
  have hby : ((q : Int) + 1) % 256 = (q : Int) + 1 := by omega
  have hw := wrap_s (q + 1) (by omega)
  have hw0 : wrap64 ((q : Int) + 1 + 1) = ((q + 1 : Nat) : Int) + 1 := by rw [show (q : Int) + 1 + 1 = ((q + 1 : Nat) : Int) + 1 by omega, hw]; omega
  induction m with
  | zero =>
    intro j hj
    obtain rfl : j = bs.length := by omega
    obtain ⟨K, hK⟩ := hr
    refine ⟨K + 1, fun k hk => ?_⟩
    obtain ⟨k, rfl⟩ : ∃ k', k = k' + 1 := ⟨k - 1, by omega⟩
    rw [ciboriumref04_Split.l1, if_neg (by rw [ints_length]; omega), if_pos (by omega), hby, hw0, ← yr_end]
    exact hK k (by omega)
  | succ m ih =>
    intro j hj
    obtain ⟨K, hK⟩ := ih (j + 1) (by omega)
    refine ⟨K + ds.length + 2000, fun k hk => ?_⟩
    obtain ⟨k, rfl⟩ : ∃ k', k = k' + 1 := ⟨k - 1, by omega⟩
    have hmul : (kk - 1) * (j + 1) ≤ ds.length := by rw [hD]; exact Nat.mul_le_mul_left _ (by omega)
    have hm1 : (kk - 1) * j ≤ (kk - 1) * (j + 1) := Nat.mul_le_mul_left _ (by omega)
    have hdl := dr_len ds kk j
    have hds : ds.length ≤ 15 * 1024 := by rw [hD]; exact Nat.mul_le_mul (by omega) hL
    have e1 : ((ints ds).take ((((kk - 1) * (j + 1) : Nat) : Int)).toNat).drop ((((kk - 1) * j : Nat) : Int)).toNat = ints (dr ds kk j) := by
      rw [Int.toNat_natCast, Int.toNat_natCast, dr_ints]
    have e2 : ([ofB (bs.getD j 0#8)] : List Int) ++ ints (dr ds kk j) = ints (bs.getD j 0#8 :: dr ds kk j) := by unfold ints; rfl
    have e3 : ciboriumref03_Eval.f k (ints (bs.getD j 0#8 :: dr ds kk j)) (ofB (xB q)) = some (ofB (ev (xB q) (bs.getD j 0#8 :: dr ds kk j))) := AEv.ref_f _ _ (by rw [List.length_cons]; omega) (by rw [List.length_cons]; omega)
    have e4 : ints ((List.range j).map (yb bs ds kk (xB q))) ++ [ofB (ev (xB q) (bs.getD j 0#8 :: dr ds kk j))] = ints ((List.range (j + 1)).map (yb bs ds kk (xB q))) := by
      rw [List.range_succ, List.map_append, ← ints_app]
      rfl
    rw [ciboriumref04_Split.l1, if_pos (by rw [ints_length]; omega), if_pos (by omega), rd_ints, Option.bind_some, wrap_k kk h1 h2, wrap_s j (by omega), wrap_m _ j (by omega) (by omega), wrap_m _ (j + 1) (by omega) (by omega), if_pos (by omega), if_pos (by omega), if_pos (by rw [ints_length]; omega), e1, e2,
      if_pos (by rw [List.length_singleton, ints_length]; omega), hby, ← xB_int q (by omega), e3, Option.bind_some, if_pos (by rw [ints_length, List.length_map, List.length_range]; omega), e4, xB_int q (by omega)]
    exact hK k (by omega)
theorem l0_f (h1 : 1 ≤ kk) (h2 : kk ≤ 16) (hn : n ≤ 16) (hL : bs.length ≤ 1024) (hD : ds.length = (kk - 1) * bs.length) (m : Nat) :
    ∀ q, q + m = n → ∃ K, ∀ k, K ≤ k → ciboriumref04_Split.l0 k (ints bs) (n : Int) (kk : Int) (ints ds) (splitR bs ds kk q) ((q : Int) + 1) = some (splitR bs ds kk n, 0) := by
  induction m with
  | zero =>
    intro q hq
    obtain rfl : q = n := by omega
    refine ⟨1, fun k hk => ?_⟩
    obtain ⟨k, rfl⟩ : ∃ k', k = k' + 1 := ⟨k - 1, by omega⟩
    rw [ciboriumref04_Split.l0, if_neg (by omega)]
  | succ m ih =>
    intro q hq
    have e : splitR bs ds kk (q + 1) = splitR bs ds kk q ++ [⟨(q : Int) + 1, yr bs ds kk (xB q) bs.length⟩] := by
      unfold splitR
      rw [List.range_succ, List.map_append]
      rfl
    have hi := ih (q + 1) (by omega)
    rw [e] at hi
    obtain ⟨K, hK⟩ := l1_f h1 h2 hL hD q (by omega) (splitR bs ds kk q) (by unfold splitR; rw [List.length_map, List.length_range]; omega) hi bs.length 0 (by omega)
    refine ⟨K + 1, fun k hk => ?_⟩
    obtain ⟨k, rfl⟩ : ∃ k', k = k' + 1 := ⟨k - 1, by omega⟩
    rw [ciboriumref04_Split.l0, if_pos (by omega)]
    exact hK k (by omega)
/-- Both Splits answer alike. -/
theorem both (l0 : List Int) (a1 a2 : Int) (l3 : List Int) (hl0 : l0.length ≤ 4096) (hl3 : l3.length ≤ 65536) (hr0 : ∀ x ∈ l0, 0 ≤ x ∧ x < 256) (hr3 : ∀ x ∈ l3, 0 ≤ x ∧ x < 256) (hn : -9223372036854775808 ≤ a1 ∧ a1 ≤ 9223372036854775807) (hk : -9223372036854775808 ≤ a2 ∧ a2 ≤ 9223372036854775807) :
    ∃ K r, ciboriumref04_Split.f K l0 a1 a2 l3 = some r ∧ share_Split.f l0 a1 a2 l3 = some r := by
  have hf : share_Split.f l0 a1 a2 l3 = (if a2 < 1 ∨ a1 < a2 ∨ 16 < a1 then some ([], 2) else if 1024 < l0.length then some ([], 3) else if (l3.length : Int) ≠ (a2 - 1) * (l0.length : Int) then some ([], 41) else some (splitR (l0.map Gfi.toB) (l3.map Gfi.toB) a2.toNat a1.toNat, 0)) := by
    unfold share_Split.f
    rw [if_pos ⟨by omega, by omega, hr0, hr3⟩]
  by_cases c1 : a2 < 1 ∨ a1 < a2 ∨ 16 < a1
  · refine ⟨1, ([], 2), ?_, by rw [hf, if_pos c1]⟩
    unfold ciboriumref04_Split.f
    by_cases d1 : a2 < 1
    · rw [if_pos d1, ciboriumref04_Split.j0, if_pos rfl]
    · rw [if_neg d1]
      by_cases d2 : a1 < a2
      · rw [if_pos d2, ciboriumref04_Split.j0, if_pos rfl]
      · rw [if_neg d2, decide_eq_true (by omega), ciboriumref04_Split.j0, if_pos rfl]
  · have hj : ∀ k, ciboriumref04_Split.f (k + 1) l0 a1 a2 l3 = (if (l0.length : Int) > 1024 then (some (([] : List S44), 3)) else (if (l3.length : Int) = (wrap64 ((wrap64 (a2 - 1)) * (l0.length : Int))) then (ciboriumref04_Split.l0 k l0 a1 a2 l3 ([] : List S44) 1) else (some (([] : List S44), 41)))) := fun k => by
      unfold ciboriumref04_Split.f
      rw [if_neg (by omega), if_neg (by omega), decide_eq_false (by omega), ciboriumref04_Split.j0, if_neg (by decide)]
    by_cases c2 : 1024 < l0.length
    · exact ⟨1, ([], 3), by rw [hj 0, if_pos (by omega)], by rw [hf, if_neg c1, if_pos c2]⟩
    · have hk2 : ((a2.toNat : Nat) : Int) = a2 := by omega
      have hn2 : ((a1.toNat : Nat) : Int) = a1 := by omega
      have hw : wrap64 ((wrap64 (a2 - 1)) * (l0.length : Int)) = (a2 - 1) * (l0.length : Int) := by
        rw [← hk2, wrap_k a2.toNat (by omega) (by omega), wrap_m _ _ (by omega) (by omega), Int.natCast_mul]
        congr 1
        omega
      by_cases c3 : (l3.length : Int) ≠ (a2 - 1) * (l0.length : Int)
      · exact ⟨1, ([], 41), by rw [hj 0, if_neg (by omega), hw, if_neg c3], by rw [hf, if_neg c1, if_neg c2, if_pos c3]⟩
      · have c3' : (l3.length : Int) = (a2 - 1) * (l0.length : Int) := Decidable.not_not.1 c3
        have hi0 : ints (l0.map toB) = l0 := byteL_ints hr0
        have hi3 : ints (l3.map toB) = l3 := byteL_ints hr3
        have hD : (l3.map toB).length = (a2.toNat - 1) * (l0.map toB).length := by
          rw [List.length_map, List.length_map]
          have e : ((a2.toNat - 1 : Nat) : Int) = a2 - 1 := by omega
          have h4 : (((a2.toNat - 1) * l0.length : Nat) : Int) = (l3.length : Int) := by rw [Int.natCast_mul, e, c3']
          omega
        obtain ⟨K, hK⟩ := l0_f (bs := l0.map toB) (ds := l3.map toB) (n := a1.toNat) (kk := a2.toNat) (by omega) (by omega) (by omega) (by rw [List.length_map]; omega) hD a1.toNat 0 (by omega)
        refine ⟨K + 1, (splitR (l0.map toB) (l3.map toB) a2.toNat a1.toNat, 0), ?_, by rw [hf, if_neg c1, if_neg c2, if_neg c3]⟩
        have h := hK K (Nat.le_refl _)
        rw [hi0, hi3, hk2, hn2] at h
        rw [hj K, if_neg (by omega), hw, if_pos c3']
        exact h
/-- same tells that what is alike is alike. -/
theorem same_l (l : List S44) (hl : l.length ≤ 1000000) (m : Nat) : ∀ i, i + m = l.length → ∀ k, m < k → ciboriumlaw04_same.l0 k l l (i : Int) = some true := by
  induction m with
  | zero =>
    intro i hi k hk
    obtain ⟨k, rfl⟩ : ∃ k', k = k' + 1 := ⟨k - 1, by omega⟩
    rw [ciboriumlaw04_same.l0, if_neg (by omega)]
  | succ m ih =>
    intro i hi k hk
    obtain ⟨k, rfl⟩ : ∃ k', k = k' + 1 := ⟨k - 1, by omega⟩
    have he : ciboriumref00_EqBytes.f (rd_T44 l (i : Int)).f1 (rd_T44 l (i : Int)).f1 = some true := by
      show PA.ciboriumref00_EqBytes.f _ _ = _
      unfold PA.ciboriumref00_EqBytes.f
      simp
    rw [ciboriumlaw04_same.l0, if_pos (by omega), if_pos (by omega), if_pos (by omega), if_pos rfl, he, Option.bind_some, if_pos rfl, wrap_s i (by omega)]
    exact ih (i + 1) (by omega) k (by omega)
theorem same_f (l : List S44) (hl : l.length ≤ 1000000) : ciboriumlaw04_same.f (l.length + 1) l l = some true := by
  unfold ciboriumlaw04_same.f
  rw [if_pos rfl]
  exact same_l l hl l.length 0 (by omega) _ (by omega)
end Go.Proofs.Ytglnepokollijaa.PureSplit
