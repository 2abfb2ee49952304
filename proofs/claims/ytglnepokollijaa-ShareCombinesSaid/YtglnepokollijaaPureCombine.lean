/- What is said here: the document's Combine and Need answer what the program's do, of any shares: as whole numbers and lists alone. -/
import Derived.Test.YtglnepokollijaaPTx1
import Derived.Test.YtglnepokollijaaPTx4
import Derived.Test.YtglnepokollijaaPTx5
import Derived.Test.YtglnepokollijaaARefA
namespace Go.Proofs.Ytglnepokollijaa.PureCombine
set_option linter.unusedVariables false
set_option linter.unusedSimpArgs false
open Go.RowKit Go.Proofs.Ytglnepokollijaa.PT Go.Proofs.YtglnepokollijaaW.PrintWords Go.Proofs.YtglnepokollijaaW.PrintLast
open Gf Gfi Poly Share AtZero Lag

theorem wrap_s (j : Nat) (h : j ≤ 1000000) : wrap64 ((j : Int) + 1) = ((j + 1 : Nat) : Int) := by
  rw [IntWalk.wrap64_in _ (by omega)]; omega
theorem atZero_all (xs ys : List B) (hm : xs.length ≤ 1000000) : ∃ K, ∀ k, K ≤ k → PT.ciboriumref03_AtZero.f k (ints xs) (ints ys) = some (res xs ys) := by
  obtain ⟨K, hK⟩ := ARefA.atZero_f xs ys hm
  refine ⟨K, fun k hk => ?_⟩
  obtain ⟨d, rfl⟩ : ∃ d, k = K + d := ⟨k - K, by omega⟩
  clear hk
  induction d with
  | zero => exact hK
  | succ d ih => exact PT.ciboriumref03_AtZero.mono _ _ (K + d) _ ih
/-- What the list l holds. -/
structure Holds (l : List S44) (X : Nat → B) (Y : Nat → List B) : Prop where
  x : ∀ q : Nat, q < l.length → (rd_T44 l (q : Int)).f0 = ofB (X q)
  y : ∀ q : Nat, q < l.length → (rd_T44 l (q : Int)).f1 = ints (Y q)
theorem mem_pre (X : Nat → B) (i : Nat) (x : B) : x ∈ pre X i ↔ ∃ j, j < i ∧ X j = x := by
  unfold pre
  rw [List.mem_map]
  constructor
  · rintro ⟨j, hj, e⟩; exact ⟨j, List.mem_range.1 hj, e⟩
  · rintro ⟨j, hj, e⟩; exact ⟨j, List.mem_range.2 hj, e⟩
theorem good_len (X : Nat → B) (Y : Nat → List B) (n : Nat) (h : goodS X Y n) (q : Nat) (hq : q < n) : (Y q).length = (Y 0).length := (good_le X Y (q + 1) n (by omega) h).2.2.2
section
variable {l : List S44} {X : Nat → B} {Y : Nat → List B}
theorem l0_bad (H : Holds l X Y) (hn : l.length ≤ 16) (hbad : ¬ ∀ q, q < l.length → (Y q).length ≤ 1024) (m : Nat) : ∀ i, i + m = l.length → (∀ q, q < i → (Y q).length ≤ 1024) → ∃ K, ∀ k, K ≤ k → ciboriumref04_Combine.l0 k l (i : Int) = some ([], 3) := by
  induction m with
  | zero =>
    intro i hi hq
    obtain rfl : i = l.length := by omega
    exact absurd hq hbad
  | succ m ih =>
    intro i hi hq
    by_cases hc : (Y i).length ≤ 1024
    · obtain ⟨K, hK⟩ := ih (i + 1) (by omega) (fun q h => by
        by_cases e : q = i
        · subst e; exact hc
        · exact hq q (by omega))
      refine ⟨K + 1, fun k hk => ?_⟩
      obtain ⟨k, rfl⟩ : ∃ k', k = k' + 1 := ⟨k - 1, by omega⟩
      rw [ciboriumref04_Combine.l0, if_pos (by omega), if_pos (by omega), H.y i (by omega), if_neg (by rw [ints_length]; omega), wrap_s i (by omega)]
      exact hK k (by omega)
    · refine ⟨1, fun k hk => ?_⟩
      obtain ⟨k, rfl⟩ : ∃ k', k = k' + 1 := ⟨k - 1, by omega⟩
      rw [ciboriumref04_Combine.l0, if_pos (by omega), if_pos (by omega), H.y i (by omega), if_pos (by rw [ints_length]; omega)]
theorem l0_good (H : Holds l X Y) (hn : l.length ≤ 16) (hall : ∀ q, q < l.length → (Y q).length ≤ 1024) {r : List Int × Int} (hr : ∃ K, ∀ k, K ≤ k → ciboriumref04_Combine.l1 k l [] 0 = some r) (m : Nat) : ∀ i, i + m = l.length → ∃ K, ∀ k, K ≤ k → ciboriumref04_Combine.l0 k l (i : Int) = some r := by
  induction m with
  | zero =>
    intro i hi
    obtain rfl : i = l.length := by omega
    obtain ⟨K, hK⟩ := hr
    refine ⟨K + 1, fun k hk => ?_⟩
    obtain ⟨k, rfl⟩ : ∃ k', k = k' + 1 := ⟨k - 1, by omega⟩
    rw [ciboriumref04_Combine.l0, if_neg (by omega)]
    exact hK k (by omega)
  | succ m ih =>
    intro i hi
    obtain ⟨K, hK⟩ := ih (i + 1) (by omega)
    have hc := hall i (by omega)
    refine ⟨K + 1, fun k hk => ?_⟩
    obtain ⟨k, rfl⟩ : ∃ k', k = k' + 1 := ⟨k - 1, by omega⟩
    rw [ciboriumref04_Combine.l0, if_pos (by omega), if_pos (by omega), H.y i (by omega), if_neg (by rw [ints_length]; omega), wrap_s i (by omega)]
    exact hK k (by omega)
theorem ints_getI (bs : List B) (j : Nat) : rd (ints bs) (j : Int) = ofB (bs.getD j 0#8) := by
  unfold rd
  rw [Int.toNat_natCast, ints_getD]
theorem l4_f (H : Holds l X Y) (hn0 : 0 < l.length) (hn : l.length ≤ 16) (hg : goodS X Y l.length) (j : Nat) (hj : j < (Y 0).length) (hj2 : j < 1024) {r : List Int × Int} (hr : ∃ K, ∀ k, K ≤ k → ciboriumref04_Combine.l3 k l (ints (pre X l.length)) (outL X Y l.length (j + 1)) ((j + 1 : Nat) : Int) = some r) (m : Nat) :
    ∀ q, q + m = l.length → ∃ K, ∀ k, K ≤ k → ciboriumref04_Combine.l4 k l (ints (pre X l.length)) (outL X Y l.length j) (j : Int) (ints ((List.range q).map fun q => (Y q).getD j 0#8)) (q : Int) = some r := by
  induction m with
  | zero =>
    intro q hq
    obtain rfl : q = l.length := by omega
    obtain ⟨K, hK⟩ := hr
    obtain ⟨K2, hK2⟩ := atZero_all (pre X l.length) (col Y l.length j) (by rw [pre_len]; omega)
    refine ⟨K + K2 + 1, fun k hk => ?_⟩
    obtain ⟨k, rfl⟩ : ∃ k', k = k' + 1 := ⟨k - 1, by omega⟩
    rw [ciboriumref04_Combine.l4, if_neg (by omega)]
    have e : ((List.range l.length).map fun q => (Y q).getD j 0#8) = col Y l.length j := rfl
    rw [e, hK2 k (by omega), Option.bind_some, if_pos (by unfold outL; rw [List.length_map, List.length_range]; omega), ← outL_succ, wrap_s j (by omega)]
    exact hK k (by omega)
  | succ m ih =>
    intro q hq
    obtain ⟨K, hK⟩ := ih (q + 1) (by omega)
    refine ⟨K + 1, fun k hk => ?_⟩
    obtain ⟨k, rfl⟩ : ∃ k', k = k' + 1 := ⟨k - 1, by omega⟩
    have hyl := good_len X Y _ hg q (by omega)
    have e : ints ((List.range q).map fun q => (Y q).getD j 0#8) ++ [ofB ((Y q).getD j 0#8)] = ints ((List.range (q + 1)).map fun q => (Y q).getD j 0#8) := by
      unfold ints
      rw [List.range_succ, List.map_append, List.map_append]
      rfl
    rw [ciboriumref04_Combine.l4, if_pos (by omega), if_pos (by omega), if_pos (by omega), H.y q (by omega), if_pos (by rw [ints_length]; omega), if_pos (by rw [ints_length, List.length_map, List.length_range]; omega), ints_getI, e, wrap_s q (by omega)]
    exact hK k (by omega)
theorem l3_f (H : Holds l X Y) (hn0 : 0 < l.length) (hn : l.length ≤ 16) (hg : goodS X Y l.length) (hall : ∀ q, q < l.length → (Y q).length ≤ 1024) (m : Nat) :
    ∀ j, j + m = (Y 0).length → ∃ K, ∀ k, K ≤ k → ciboriumref04_Combine.l3 k l (ints (pre X l.length)) (outL X Y l.length j) (j : Int) = some (outL X Y l.length (Y 0).length, 0) := by
  have h0 := hall 0 hn0
  have hy0 : (rd_T44 l 0).f1 = ints (Y 0) := H.y 0 hn0
  induction m with
  | zero =>
    intro j hj
    obtain rfl : j = (Y 0).length := by omega
    refine ⟨1, fun k hk => ?_⟩
    obtain ⟨k, rfl⟩ : ∃ k', k = k' + 1 := ⟨k - 1, by omega⟩
    rw [ciboriumref04_Combine.l3, if_pos (by omega), hy0, if_neg (by rw [ints_length]; omega)]
  | succ m ih =>
    intro j hj
    obtain ⟨K, hK⟩ := l4_f H hn0 hn hg j (by omega) (by omega) (ih (j + 1) (by omega)) l.length 0 (by omega)
    refine ⟨K + 1, fun k hk => ?_⟩
    obtain ⟨k, rfl⟩ : ∃ k', k = k' + 1 := ⟨k - 1, by omega⟩
    rw [ciboriumref04_Combine.l3, if_pos (by omega), hy0, if_pos (by rw [ints_length]; omega)]
    exact hK k (by omega)
theorem bad_R {i : Nat} (hi : i < l.length) (h : ¬ goodS X Y (i + 1)) : (combL X Y l.length, combE X Y l.length) = (([] : List Int), (40 : Int)) := by
  have : ¬ goodS X Y l.length := fun hg => h (good_le X Y (i + 1) l.length (by omega) hg)
  unfold combL combE
  rw [if_neg this, if_neg this]
theorem l2_f (H : Holds l X Y) (hn : l.length ≤ 16) (i : Nat) (hi : i < l.length) (hg : goodS X Y i) (hr : goodS X Y (i + 1) → ∃ K, ∀ k, K ≤ k → ciboriumref04_Combine.l1 k l (ints (pre X (i + 1))) ((i + 1 : Nat) : Int) = some (combL X Y l.length, combE X Y l.length)) (m : Nat) :
    ∀ j, j + m = i → (∀ q, q < j → X q ≠ X i) → ∃ K, ∀ k, K ≤ k → ciboriumref04_Combine.l2 k l (ints (pre X i)) (i : Int) (j : Int) = some (combL X Y l.length, combE X Y l.length) := by
  have h0 : 0 < l.length := by omega
  have hy0 : (rd_T44 l 0).f1 = ints (Y 0) := H.y 0 h0
  induction m with
  | zero =>
    intro j hj hq
    obtain rfl : j = i := by omega
    have hnp : X j ∉ pre X j := fun h => by obtain ⟨q, h1, h2⟩ := (mem_pre X j _).1 h; exact hq q h1 h2
    by_cases hz : X j = 0#8
    · refine ⟨1, fun k hk => ?_⟩
      obtain ⟨k, rfl⟩ : ∃ k', k = k' + 1 := ⟨k - 1, by omega⟩
      rw [ciboriumref04_Combine.l2, if_neg (by omega), if_pos (by omega), if_pos (by omega), H.x j hi, if_pos (ofB_eq_zero.2 hz), bad_R hi (fun h => h.2.1 hz)]
    · by_cases hle : (Y j).length = (Y 0).length
      · have hg1 : goodS X Y (j + 1) := ⟨hg, hz, hnp, hle⟩
        obtain ⟨K, hK⟩ := hr hg1
        refine ⟨K + 1, fun k hk => ?_⟩
        obtain ⟨k, rfl⟩ : ∃ k', k = k' + 1 := ⟨k - 1, by omega⟩
        have e : ints (pre X j) ++ [ofB (X j)] = ints (pre X (j + 1)) := by
          rw [pre_succ]; unfold ints; rw [List.map_append]; rfl
        rw [ciboriumref04_Combine.l2, if_neg (by omega), if_pos (by omega), if_pos (by omega), H.x j hi, if_neg (fun h => hz (ofB_eq_zero.1 h)), if_pos (by omega), H.y j hi, hy0, if_pos (by rw [ints_length, ints_length, hle]), if_pos (by rw [ints_length, pre_len]; omega), e, wrap_s j (by omega)]
        exact hK k (by omega)
      · refine ⟨1, fun k hk => ?_⟩
        obtain ⟨k, rfl⟩ : ∃ k', k = k' + 1 := ⟨k - 1, by omega⟩
        rw [ciboriumref04_Combine.l2, if_neg (by omega), if_pos (by omega), if_pos (by omega), H.x j hi, if_neg (fun h => hz (ofB_eq_zero.1 h)), if_pos (by omega), H.y j hi, hy0, if_neg (by rw [ints_length, ints_length]; omega), bad_R hi (fun h => hle h.2.2.2)]
  | succ m ih =>
    intro j hj hq
    by_cases he : X j = X i
    · refine ⟨1, fun k hk => ?_⟩
      obtain ⟨k, rfl⟩ : ∃ k', k = k' + 1 := ⟨k - 1, by omega⟩
      rw [ciboriumref04_Combine.l2, if_pos (by omega), if_pos (by omega), if_pos (by omega), if_pos (by omega), if_pos (by omega), H.x j (by omega), H.x i hi, if_pos (by rw [he]), bad_R hi (fun h => h.2.2.1 ((mem_pre X i _).2 ⟨j, by omega, he⟩))]
    · obtain ⟨K, hK⟩ := ih (j + 1) (by omega) (fun q h => by
        by_cases e : q = j
        · subst e; exact he
        · exact hq q (by omega))
      refine ⟨K + 1, fun k hk => ?_⟩
      obtain ⟨k, rfl⟩ : ∃ k', k = k' + 1 := ⟨k - 1, by omega⟩
      rw [ciboriumref04_Combine.l2, if_pos (by omega), if_pos (by omega), if_pos (by omega), if_pos (by omega), if_pos (by omega), H.x j (by omega), H.x i hi, if_neg (fun h => he (ofB_inj h)), wrap_s j (by omega)]
      exact hK k (by omega)
theorem l1_f (H : Holds l X Y) (hn0 : 0 < l.length) (hn : l.length ≤ 16) (hall : ∀ q, q < l.length → (Y q).length ≤ 1024) (m : Nat) :
    ∀ i, i + m = l.length → goodS X Y i → ∃ K, ∀ k, K ≤ k → ciboriumref04_Combine.l1 k l (ints (pre X i)) (i : Int) = some (combL X Y l.length, combE X Y l.length) := by
  induction m with
  | zero =>
    intro i hi hg
    obtain rfl : i = l.length := by omega
    obtain ⟨K, hK⟩ := l3_f H hn0 hn hg hall (Y 0).length 0 (by omega)
    refine ⟨K + 1, fun k hk => ?_⟩
    obtain ⟨k, rfl⟩ : ∃ k', k = k' + 1 := ⟨k - 1, by omega⟩
    rw [ciboriumref04_Combine.l1, if_neg (by omega)]
    unfold combL combE
    rw [if_pos hg, if_pos hg]
    exact hK k (by omega)
  | succ m ih =>
    intro i hi hg
    obtain ⟨K, hK⟩ := l2_f H hn i (by omega) hg (fun h => ih (i + 1) (by omega) h) i 0 (by omega) (fun q h => absurd h (Nat.not_lt_zero q))
    refine ⟨K + 1, fun k hk => ?_⟩
    obtain ⟨k, rfl⟩ : ∃ k', k = k' + 1 := ⟨k - 1, by omega⟩
    rw [ciboriumref04_Combine.l1, if_pos (by omega)]
    exact hK k (by omega)
end
theorem holds_of (l : List S44) (hr : ∀ s ∈ l, (0 ≤ s.f0 ∧ s.f0 < 256) ∧ ∀ x ∈ s.f1, 0 ≤ x ∧ x < 256) : Holds l (fun i => toB (l.getD i z44).f0) (fun i => (l.getD i z44).f1.map toB) := by
  have hm : ∀ q, q < l.length → l.getD q z44 ∈ l := fun q hq => by
    rw [List.getD_eq_getElem?_getD, List.getElem?_eq_getElem hq]
    exact List.getElem_mem hq
  have hd : ∀ q : Nat, rd_T44 l (q : Int) = l.getD q z44 := fun q => by unfold rd_T44; rw [Int.toNat_natCast]
  refine ⟨fun q hq => ?_, fun q hq => ?_⟩
  · rw [hd, ofB_toB (hr _ (hm q hq)).1.1 (hr _ (hm q hq)).1.2]
  · rw [hd]
    exact (byteL_ints (hr _ (hm q hq)).2).symm
/-- Both Combines answer alike. -/
theorem both (l : List S44) (hr : ∀ s ∈ l, (0 ≤ s.f0 ∧ s.f0 < 256) ∧ ∀ x ∈ s.f1, 0 ≤ x ∧ x < 256) (hl : l.length ≤ 300) (hs : ∀ s ∈ l, s.f1.length ≤ 1000000) : ∃ K r, ciboriumref04_Combine.f K l = some r ∧ share_Combine.f l = some r := by
  have H := holds_of l hr
  have hf : share_Combine.f l = (if l.length = 0 ∨ 16 < l.length then some ([], 2) else if ¬ ∀ s ∈ l, s.f1.length ≤ 1024 then some ([], 3) else
      some (Share.combL (fun i => Gfi.toB (l.getD i z44).f0) (fun i => (l.getD i z44).f1.map Gfi.toB) l.length, Share.combE (fun i => Gfi.toB (l.getD i z44).f0) (fun i => (l.getD i z44).f1.map Gfi.toB) l.length)) := by
    unfold share_Combine.f
    rw [if_pos ⟨by omega, fun s h => ⟨(hr s h).1, (hr s h).2, by have := hs s h; omega⟩⟩]
  by_cases c1 : l.length = 0 ∨ 16 < l.length
  · refine ⟨1, ([], 2), ?_, by rw [hf, if_pos c1]⟩
    unfold ciboriumref04_Combine.f
    by_cases d : (l.length : Int) = 0
    · rw [if_pos d, ciboriumref04_Combine.j0, if_pos rfl]
    · rw [if_neg d, decide_eq_true (by omega), ciboriumref04_Combine.j0, if_pos rfl]
  · have hj : ∀ k, ciboriumref04_Combine.f (k + 1) l = ciboriumref04_Combine.l0 k l ((0 : Nat) : Int) := fun k => by
      unfold ciboriumref04_Combine.f
      rw [if_neg (by omega), decide_eq_false (by omega), ciboriumref04_Combine.j0, if_neg (by decide)]
      rfl
    by_cases c2 : ∀ s ∈ l, s.f1.length ≤ 1024
    · have hall : ∀ q, q < l.length → ((l.getD q z44).f1.map toB).length ≤ 1024 := fun q hq => by
        rw [List.length_map]
        refine c2 _ ?_
        rw [List.getD_eq_getElem?_getD, List.getElem?_eq_getElem hq]
        exact List.getElem_mem hq
      obtain ⟨K, hK⟩ := l0_good H (by omega) hall (l1_f H (by omega) (by omega) hall l.length 0 (by omega) trivial) l.length 0 (by omega)
      exact ⟨K + 1, _, by rw [hj]; exact hK K (Nat.le_refl _), by rw [hf, if_neg c1, if_neg (fun h => h c2)]⟩
    · obtain ⟨K, hK⟩ := l0_bad H (by omega) (fun hq => c2 (fun s hs => by
        obtain ⟨i, hi, rfl⟩ := List.mem_iff_getElem.1 hs
        have := hq i hi
        rw [List.length_map, List.getD_eq_getElem?_getD, List.getElem?_eq_getElem hi] at this
        exact this)) l.length 0 (by omega) (fun q h => absurd h (Nat.not_lt_zero q))
      exact ⟨K + 1, _, by rw [hj]; exact hK K (Nat.le_refl _), by rw [hf, if_neg c1, if_pos c2]⟩
/-! How many more are needed. -/
theorem mem_fr (X : Nat → B) (i : Nat) (x : B) : x ∈ fr X i ↔ x ≠ 0#8 ∧ ∃ j, j < i ∧ X j = x := by
  induction i with
  | zero => simp [fr]
  | succ i ih =>
    rw [fr]
    split
    · rename_i h
      rw [ih]
      constructor
      · rintro ⟨h1, j, h2, h3⟩; exact ⟨h1, j, by omega, h3⟩
      · rintro ⟨h1, j, h2, h3⟩
        refine ⟨h1, ?_⟩
        by_cases e : j = i
        · subst e
          rcases h with h | h
          · exact absurd (h3 ▸ h) h1
          · rw [h3] at h; exact (ih.1 h).2
        · exact ⟨j, by omega, h3⟩
    · rename_i h
      rw [List.mem_append, ih, List.mem_singleton]
      constructor
      · rintro (⟨h1, j, h2, h3⟩ | rfl)
        · exact ⟨h1, j, by omega, h3⟩
        · exact ⟨fun e => h (.inl e), i, by omega, rfl⟩
      · rintro ⟨h1, j, h2, h3⟩
        by_cases e : j = i
        · subst e; exact .inr h3.symm
        · exact .inl ⟨h1, j, by omega, h3⟩
section
variable {l : List S44} {X : Nat → B} {Y : Nat → List B}
theorem n1_f (H : Holds l X Y) (hl : l.length ≤ 300) (a : Int) (i : Nat) (hi : i < l.length) {r : Int} (hr : ∃ K, ∀ k, K ≤ k → ciboriumref04_Need.l0 k l a ((fr X (i + 1)).length : Int) ((i + 1 : Nat) : Int) = some r) (m : Nat) :
    ∀ j (b : Bool), j + m = i → (b = true ↔ X i ≠ 0#8 ∧ ∀ q, q < j → X q ≠ X i) → ∃ K, ∀ k, K ≤ k → ciboriumref04_Need.l1 k l a ((fr X i).length : Int) (i : Int) b (j : Int) = some r := by
  obtain ⟨K, hK⟩ := hr
  have hfl := fr_len X i
  have no : ¬ (X i ≠ 0#8 ∧ ∀ q, q < i → X q ≠ X i) → (fr X (i + 1)).length = (fr X i).length := fun h => by
    rw [fr, if_pos]
    by_cases hz : X i = 0#8
    · exact .inl hz
    · refine .inr ((mem_fr X i _).2 ⟨hz, Decidable.byContradiction fun hc => h ⟨hz, fun q hq e => hc ⟨q, hq, e⟩⟩⟩)
  induction m with
  | zero =>
    intro j b hj hb
    obtain rfl : j = i := by omega
    refine ⟨K + 1, fun k hk => ?_⟩
    obtain ⟨k, rfl⟩ : ∃ k', k = k' + 1 := ⟨k - 1, by omega⟩
    rw [ciboriumref04_Need.l1, if_neg (by omega), wrap_s j (by omega)]
    by_cases hbt : b = true
    · have h := hb.1 hbt
      have e : (fr X (j + 1)).length = (fr X j).length + 1 := by
        rw [fr, if_neg, List.length_append, List.length_singleton]
        rintro (hz | hm)
        · exact h.1 hz
        · obtain ⟨_, q, hq, e⟩ := (mem_fr X j _).1 hm
          exact h.2 q hq e
      rw [if_pos hbt, wrap_s _ (by omega), ← e]
      exact hK k (by omega)
    · rw [if_neg hbt]
      have e := no (fun h => hbt (hb.2 h))
      rw [e] at hK
      exact hK k (by omega)
  | succ m ih =>
    intro j b hj hb
    by_cases hbt : b = true
    · have h := hb.1 hbt
      obtain ⟨K2, hK2⟩ := ih (j + 1) (ofB (X j) != ofB (X i)) (by omega) (by
        rw [bne_iff_ne]
        constructor
        · intro hne
          refine ⟨h.1, fun q hq => ?_⟩
          by_cases e : q = j
          · subst e; exact fun e => hne (by rw [e])
          · exact h.2 q (by omega)
        · intro h2 e
          exact h2.2 j (by omega) (ofB_inj e))
      refine ⟨K2 + 1, fun k hk => ?_⟩
      obtain ⟨k, rfl⟩ : ∃ k', k = k' + 1 := ⟨k - 1, by omega⟩
      rw [ciboriumref04_Need.l1, if_pos (by omega), if_pos hbt, if_pos (by omega), if_pos (by omega), if_pos (by omega), if_pos (by omega), H.x j (by omega), H.x i hi, wrap_s j (by omega)]
      exact hK2 k (by omega)
    · refine ⟨K + 1, fun k hk => ?_⟩
      obtain ⟨k, rfl⟩ : ∃ k', k = k' + 1 := ⟨k - 1, by omega⟩
      have e := no (fun h => hbt (hb.2 ⟨h.1, fun q hq => h.2 q (by omega)⟩))
      rw [ciboriumref04_Need.l1, if_pos (by omega), if_neg hbt, wrap_s i (by omega)]
      rw [e] at hK
      exact hK k (by omega)
theorem n0_f (H : Holds l X Y) (hl : l.length ≤ 300) (a : Int) (ha : -9223372036854775808 ≤ a ∧ a ≤ 9223372036854775807) (m : Nat) :
    ∀ i, i + m = l.length → ∃ K, ∀ k, K ≤ k → ciboriumref04_Need.l0 k l a ((fr X i).length : Int) (i : Int) = some (need X l.length a) := by
  induction m with
  | zero =>
    intro i hi
    obtain rfl : i = l.length := by omega
    refine ⟨1, fun k hk => ?_⟩
    obtain ⟨k, rfl⟩ : ∃ k', k = k' + 1 := ⟨k - 1, by omega⟩
    have hfl := fr_len X l.length
    rw [ciboriumref04_Need.l0, if_neg (by omega)]
    unfold need
    split
    · rfl
    · rw [IntWalk.wrap64_in _ (by omega)]
  | succ m ih =>
    intro i hi
    obtain ⟨K, hK⟩ := n1_f H hl a i (by omega) (ih (i + 1) (by omega)) i 0 (ofB (X i) != 0) (by omega) (by
      rw [bne_iff_ne]
      constructor
      · exact fun h => ⟨fun e => h (ofB_eq_zero.2 e), fun q hq => absurd hq (Nat.not_lt_zero q)⟩
      · exact fun h e => h.1 (ofB_eq_zero.1 e))
    refine ⟨K + 1, fun k hk => ?_⟩
    obtain ⟨k, rfl⟩ : ∃ k', k = k' + 1 := ⟨k - 1, by omega⟩
    rw [ciboriumref04_Need.l0, if_pos (by omega), if_pos (by omega), H.x i (by omega)]
    exact hK k (by omega)
end
theorem need_both (l : List S44) (hr : ∀ s ∈ l, (0 ≤ s.f0 ∧ s.f0 < 256) ∧ ∀ x ∈ s.f1, 0 ≤ x ∧ x < 256) (hl : l.length ≤ 300) (a : Int) (ha : -9223372036854775808 ≤ a ∧ a ≤ 9223372036854775807) :
    ∃ K, ciboriumref04_Need.f K l a = some (need (fun i => toB (l.getD i z44).f0) l.length a) := by
  obtain ⟨K, hK⟩ := n0_f (holds_of l hr) hl a ha l.length 0 (by omega)
  exact ⟨K, hK K (Nat.le_refl _)⟩
/-! Too many bytes. -/
theorem vast_l (l : List S44) (m : Nat) : ∀ (i : Nat) (x : Int), i + m = l.length → 0 ≤ x → (x ≤ 65536 → i ≤ 70000 ∧ ∀ q : Nat, q < i → (rd_T44 l (q : Int)).f1.length ≤ 65536) → (l.length ≤ 65536 ∨ 65536 < x) → ∃ K b, ciboriumlaw04_vast.l0 K l x (i : Int) = some b ∧ (b = false → ∀ q : Nat, q < l.length → (rd_T44 l (q : Int)).f1.length ≤ 65536) := by
  induction m with
  | zero =>
    intro i x hi hx hq hs
    obtain rfl : i = l.length := by omega
    refine ⟨1, decide (x > 65536), by rw [ciboriumlaw04_vast.l0, if_neg (by omega)], fun hb => ?_⟩
    exact (hq (by have := of_decide_eq_false hb; omega)).2
  | succ m ih =>
    intro i x hi hx hq hs
    by_cases hc : x ≤ 65536
    · obtain ⟨h1, h2⟩ := hq hc
      have hmn : 0 ≤ mn ((rd_T44 l (i : Int)).f1.length : Int) 131072 ∧ mn ((rd_T44 l (i : Int)).f1.length : Int) 131072 ≤ 131072 ∧ (mn ((rd_T44 l (i : Int)).f1.length : Int) 131072 ≤ 65536 → (rd_T44 l (i : Int)).f1.length ≤ 65536) := by
        unfold mn
        split <;> omega
      have hw : wrap64 (x + mn ((rd_T44 l (i : Int)).f1.length : Int) 131072) = x + mn ((rd_T44 l (i : Int)).f1.length : Int) 131072 := IntWalk.wrap64_in _ (by omega)
      obtain ⟨K, b, h3, h4⟩ := ih (i + 1) (x + mn ((rd_T44 l (i : Int)).f1.length : Int) 131072) (by omega) (by omega) (fun hle => ⟨by omega, fun q hqi => by
        by_cases e : q = i
        · subst e; exact hmn.2.2 (by omega)
        · exact h2 q (by omega)⟩) (by omega)
      exact ⟨K + 1, b, by rw [ciboriumlaw04_vast.l0, if_pos (by omega), if_pos hc, if_pos (by omega), hw, wrap_s i (by omega)]; exact h3, h4⟩
    · exact ⟨1, true, by rw [ciboriumlaw04_vast.l0, if_pos (by omega), if_neg hc, decide_eq_true (by omega)], fun h => by cases h⟩
theorem vast_f (l : List S44) : ∃ K b, ciboriumlaw04_vast.f K l = some b ∧ (b = false → ∀ s ∈ l, s.f1.length ≤ 65536) := by
  obtain ⟨K, b, h1, h2⟩ := vast_l l l.length 0 (l.length : Int) (by omega) (by omega) (fun _ => ⟨by omega, fun q hq => absurd hq (Nat.not_lt_zero q)⟩) (by omega)
  refine ⟨K, b, h1, fun hb s hs => ?_⟩
  obtain ⟨i, hi, rfl⟩ := List.mem_iff_getElem.1 hs
  have := h2 hb i hi
  unfold rd_T44 at this
  rw [Int.toNat_natCast, List.getD_eq_getElem?_getD, List.getElem?_eq_getElem hi] at this
  exact this
theorem comb_len (l : List S44) (hs : ∀ s ∈ l, s.f1.length ≤ 65536) (r : List Int × Int) (h : share_Combine.f l = some r) : r.1.length ≤ 65536 := by
  unfold share_Combine.f at h
  split at h
  · split at h
    · injection h with h
      rw [← h]
      decide
    · rename_i h0
      split at h
      · injection h with h
        rw [← h]
        decide
      · injection h with h
        rw [← h]
        show (Share.combL _ _ _).length ≤ 65536
        unfold Share.combL
        split
        · unfold Share.outL
          rw [List.length_map, List.length_range, List.length_map]
          refine hs _ ?_
          have hl : 0 < l.length := by omega
          rw [List.getD_eq_getElem?_getD, List.getElem?_eq_getElem hl]
          exact List.getElem_mem hl
        · decide
  · cases h
end Go.Proofs.Ytglnepokollijaa.PureCombine
