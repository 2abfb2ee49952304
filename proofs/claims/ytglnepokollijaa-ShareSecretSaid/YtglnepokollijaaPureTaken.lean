/- What is said here: the law's anchor, mod, filled and taken: as whole numbers and lists alone. -/
import Derived.Test.YtglnepokollijaaPTx2
import Derived.Test.YtglnepokollijaaPTx6
import Derived.Test.YtglnepokollijaaLagT
namespace Go.Proofs.Ytglnepokollijaa.PureTaken
set_option linter.unusedVariables false
set_option linter.unusedSimpArgs false
open Go.RowKit Go.Proofs.Ytglnepokollijaa.PT Go.Proofs.YtglnepokollijaaW.PrintWords Go.Proofs.YtglnepokollijaaW.PrintLast
open Gf Gfi Poly Lag LagT

theorem works_0 : ciboriumlaw04_works.f 3 = some true := by decide +kernel
theorem works_f (k : Nat) (hk : 3 ≤ k) : ciboriumlaw04_works.f k = some true := by
  obtain ⟨d, rfl⟩ : ∃ d, k = 3 + d := ⟨k - 3, by omega⟩
  clear hk
  induction d with
  | zero => exact works_0
  | succ d ih => exact ciboriumlaw04_works.mono (3 + d) _ ih
theorem mod_f (x n : Int) (hn : 0 < n) (hn1 : n ≤ 1000000) : ciboriumlaw04_mod.f x n = some (x % n) := by
  unfold ciboriumlaw04_mod.f
  rw [if_neg (by omega)]
  have h1 := Int.emod_nonneg x (show n ≠ 0 by omega)
  have h2 := Int.emod_lt_of_pos x hn
  have h3 : Int.tmod x n = x % n ∨ Int.tmod x n = x % n - n := by
    rw [Int.tmod_eq_emod]
    split
    · left; omega
    · right; rw [show ((n.natAbs : Nat) : Int) = n by omega]
  split
  · rename_i h
    have h4 : Int.tmod x n + n = x % n := by omega
    rw [h4, IntWalk.wrap64_in _ (by omega)]
  · rename_i h
    congr 1
    omega
theorem filled_l (ds : List Int) (hr : ∀ x ∈ ds, 0 ≤ x ∧ x < 256) (n : Nat) (hn : n ≤ 1000000) (m : Nat) : ∀ (i : Nat) (acc : List Int), i + m = n → acc.length = i → (∀ x ∈ acc, 0 ≤ x ∧ x < 256) → ∀ k, m + 1 ≤ k →
    ∃ out, ciboriumlaw04_filled.l0 k ds (n : Int) acc (i : Int) = some out ∧ out.length = n ∧ ∀ x ∈ out, 0 ≤ x ∧ x < 256 := by
  induction m with
  | zero =>
    intro i acc hi ha hx k hk
    obtain ⟨k, rfl⟩ : ∃ k', k = k' + 1 := ⟨k - 1, by omega⟩
    exact ⟨acc, by rw [ciboriumlaw04_filled.l0, if_neg (by omega)], by omega, hx⟩
  | succ m ih =>
    intro i acc hi ha hx k hk
    obtain ⟨k, rfl⟩ : ∃ k', k = k' + 1 := ⟨k - 1, by omega⟩
    have hw : wrap64 ((i : Int) + 1) = ((i + 1 : Nat) : Int) := by rw [IntWalk.wrap64_in _ (by omega)]; omega
    by_cases h0 : (ds.length : Int) = 0
    · obtain ⟨out, h1, h2, h3⟩ := ih (i + 1) (acc ++ [0]) (by omega) (by rw [List.length_append, List.length_singleton]; omega) (fun x h => by
        rcases List.mem_append.1 h with h | h
        · exact hx x h
        · rw [List.mem_singleton.1 h]; decide) k (by omega)
      exact ⟨out, by rw [ciboriumlaw04_filled.l0, if_pos (by omega), if_pos h0, if_pos (by omega), hw]; exact h1, h2, h3⟩
    · have e : Int.tmod (i : Int) (ds.length : Int) = ((i % ds.length : Nat) : Int) := rfl
      have hlt : i % ds.length < ds.length := Nat.mod_lt _ (by omega)
      have hm : rd ds ((i % ds.length : Nat) : Int) ∈ ds := by
        unfold rd
        rw [Int.toNat_natCast, List.getD_eq_getElem?_getD, List.getElem?_eq_getElem hlt]
        exact List.getElem_mem hlt
      obtain ⟨out, h1, h2, h3⟩ := ih (i + 1) (acc ++ [rd ds ((i % ds.length : Nat) : Int)]) (by omega) (by rw [List.length_append, List.length_singleton]; omega) (fun x h => by
        rcases List.mem_append.1 h with h | h
        · exact hx x h
        · rw [List.mem_singleton.1 h]; exact hr _ hm) k (by omega)
      exact ⟨out, by rw [ciboriumlaw04_filled.l0, if_pos (by omega), if_neg h0, e, if_pos (by omega), if_pos (by omega), if_pos (by omega), hw]; exact h1, h2, h3⟩
theorem all_len (n : Nat) : ∀ l : List Int, (∀ p : Nat, p < n → (p : Int) ∈ l) → n ≤ l.length := by
  induction n with
  | zero => intro l _; omega
  | succ n ih =>
    intro l h
    have hm := h n (by omega)
    have h1 := ih (l.erase (n : Int)) (fun p hp => (List.mem_erase_of_ne (by omega)).2 (h p (by omega)))
    rw [List.length_erase_of_mem hm] at h1
    have h2 : 0 < l.length := List.length_pos_of_mem hm
    omega
/-- Places, each once, below n. -/
structure Places (n : Nat) (l : List Int) : Prop where
  nd : l.Nodup
  rg : ∀ x ∈ l, 0 ≤ x ∧ x < (n : Int)
theorem Places.add {n : Nat} {l : List Int} (h : Places n l) (p : Int) (h0 : 0 ≤ p) (h1 : p < (n : Int)) (hp : p ∉ l) : Places n (l ++ [p]) :=
  ⟨by rw [List.nodup_append]; exact ⟨h.nd, by simp, fun a ha b hb => by rw [List.mem_singleton.1 hb]; exact fun e => hp (e ▸ ha)⟩, fun x hx => by
    rcases List.mem_append.1 hx with hx | hx
    · exact h.rg x hx
    · rw [List.mem_singleton.1 hx]; exact ⟨h0, h1⟩⟩
theorem rd_at (l : List Int) (q : Nat) (h : q < l.length) : rd l (q : Int) = l[q] := by
  unfold rd
  rw [Int.toNat_natCast, List.getD_eq_getElem?_getD, List.getElem?_eq_getElem h]
  rfl
theorem seen_l (ord : List Int) (n many : Int) (acc : List Int) (ha : acc.length ≤ 100000) (i : Nat) (hi : i ≤ 100000) (p : Int) (r : List Int) (K : Nat)
    (h : ∀ k, K ≤ k → ciboriumlaw04_taken.l0 k ord n many (if p ∈ acc then acc else acc ++ [p]) ((i + 1 : Nat) : Int) = some r) (m : Nat) : ∀ (q : Nat) (fresh : Bool), q + m = acc.length → fresh = decide (p ∉ acc.take q) → ∀ k, K + m + 1 ≤ k →
    ciboriumlaw04_taken.l1 k ord n many acc (i : Int) p fresh (q : Int) = some r := by
  have hw : wrap64 ((i : Int) + 1) = ((i + 1 : Nat) : Int) := by rw [IntWalk.wrap64_in _ (by omega)]; omega
  induction m with
  | zero =>
    intro q fresh hq hf k hk
    obtain ⟨k, rfl⟩ : ∃ k', k = k' + 1 := ⟨k - 1, by omega⟩
    rw [ciboriumlaw04_taken.l1, if_neg (by omega), hw]
    rw [List.take_of_length_le (by omega)] at hf
    by_cases hp : p ∈ acc
    · rw [hf, decide_eq_false (by simpa using hp), if_neg (by decide)]
      have := h k (by omega)
      rwa [if_pos hp] at this
    · rw [hf, decide_eq_true hp, if_pos rfl, if_pos (by omega)]
      have := h k (by omega)
      rwa [if_neg hp] at this
  | succ m ih =>
    intro q fresh hq hf k hk
    obtain ⟨k, rfl⟩ : ∃ k', k = k' + 1 := ⟨k - 1, by omega⟩
    have hwq : wrap64 ((q : Int) + 1) = ((q + 1 : Nat) : Int) := by rw [IntWalk.wrap64_in _ (by omega)]; omega
    have hql : q < acc.length := by omega
    rw [ciboriumlaw04_taken.l1, if_pos (by omega), hwq]
    have ht : acc.take (q + 1) = acc.take q ++ [acc[q]] := List.take_succ_eq_append_getElem hql
    cases fresh with
    | true =>
      rw [if_pos rfl, if_pos (by omega), rd_at acc q hql]
      refine ih (q + 1) _ (by omega) ?_ k (by omega)
      have hf' : p ∉ acc.take q := of_decide_eq_true hf.symm
      rw [Bool.eq_iff_iff, decide_eq_true_eq, bne_iff_ne, ht, List.mem_append, List.mem_singleton]
      exact ⟨fun h h2 => h2.elim hf' (fun e => h e.symm), fun h e => h (Or.inr e.symm)⟩
    | false =>
      rw [if_neg (by decide)]
      refine ih (q + 1) _ (by omega) ?_ k (by omega)
      have hf' : p ∈ acc.take q := Decidable.not_not.1 (of_decide_eq_false hf.symm)
      rw [decide_eq_false]
      rw [ht, List.mem_append]
      exact fun h => h (Or.inl hf')
theorem taken_l (ord : List Int) (ho : ord.length ≤ 100) (n many : Nat) (hn0 : 0 < n) (hn : n ≤ 16) (hm : many ≤ n) (m : Nat) : ∀ (i : Nat) (acc : List Int), i + m = ord.length + n → Places n acc → acc.length ≤ many → (∀ p : Nat, p + ord.length < i → (p : Int) ∈ acc) →
    ∃ r, (∀ k, (m + 1) * 24 ≤ k → ciboriumlaw04_taken.l0 k ord (n : Int) (many : Int) acc (i : Int) = some r) ∧ Places n r ∧ r.length = many := by
  have hwl : wrap64 ((ord.length : Int) + (n : Int)) = ((ord.length + n : Nat) : Int) := by rw [IntWalk.wrap64_in _ (by omega)]; omega
  have stop : ∀ (i : Nat) (acc : List Int), (ord.length + n ≤ i ∨ many ≤ acc.length) → ∀ k, 2 ≤ k → ciboriumlaw04_taken.l0 k ord (n : Int) (many : Int) acc (i : Int) = some acc := by
    intro i acc h k hk
    obtain ⟨k, rfl⟩ : ∃ k', k = k' + 2 := ⟨k - 2, by omega⟩
    rw [ciboriumlaw04_taken.l0, hwl]
    by_cases h1 : ord.length + n ≤ i
    · rw [if_neg (by omega), ciboriumlaw04_taken.j1, if_neg (by decide)]
    · rw [if_pos (by omega), decide_eq_false (by omega), ciboriumlaw04_taken.j1, if_neg (by decide)]
  induction m with
  | zero =>
    intro i acc hi hp hl hall
    refine ⟨acc, fun k hk => stop i acc (Or.inl (by omega)) k (by omega), hp, ?_⟩
    have := all_len n acc (fun p hp => hall p (by omega))
    omega
  | succ m ih =>
    intro i acc hi hp hl hall
    by_cases hfull : many ≤ acc.length
    · exact ⟨acc, fun k hk => stop i acc (Or.inr hfull) k (by omega), hp, by omega⟩
    · -- the place that is looked at
      obtain ⟨p, hp0, hp1, hpk, hpi⟩ : ∃ p : Int, 0 ≤ p ∧ p < (n : Int) ∧ (∀ k, 1 ≤ k → ∀ r, ciboriumlaw04_taken.j2 k ord (n : Int) (many : Int) acc (i : Int) p = some r → ciboriumlaw04_taken.l0 (k + 2) ord (n : Int) (many : Int) acc (i : Int) = some r) ∧ (ord.length ≤ i → p = (i : Int) - (ord.length : Int)) := by
        by_cases hio : i < ord.length
        · refine ⟨rd ord (i : Int) % (n : Int), Int.emod_nonneg _ (by omega), Int.emod_lt_of_pos _ (by omega), fun k _ r h => ?_, fun h => by omega⟩
          rw [ciboriumlaw04_taken.l0, hwl, if_pos (by omega), decide_eq_true (by omega), ciboriumlaw04_taken.j1, if_pos rfl, if_neg (by omega), if_pos (by omega), if_pos (by omega), mod_f _ _ (by omega) (by omega), Option.bind_some]
          exact h
        · have hwi : wrap64 ((i : Int) - (ord.length : Int)) = (i : Int) - (ord.length : Int) := IntWalk.wrap64_in _ (by omega)
          refine ⟨(i : Int) - (ord.length : Int), by omega, by omega, fun k _ r h => ?_, fun _ => rfl⟩
          rw [ciboriumlaw04_taken.l0, hwl, if_pos (by omega), decide_eq_true (by omega), ciboriumlaw04_taken.j1, if_pos rfl, if_neg (by omega), if_neg (by omega), hwi]
          exact h
      have hP : Places n (if p ∈ acc then acc else acc ++ [p]) := by
        by_cases h : p ∈ acc
        · rw [if_pos h]; exact hp
        · rw [if_neg h]; exact hp.add p hp0 hp1 h
      have hL : (if p ∈ acc then acc else acc ++ [p]).length ≤ many := by
        by_cases h : p ∈ acc
        · rw [if_pos h]; omega
        · rw [if_neg h, List.length_append, List.length_singleton]; omega
      have hA : ∀ q : Nat, q + ord.length < i + 1 → (q : Int) ∈ (if p ∈ acc then acc else acc ++ [p]) := by
        intro q hq
        have hsub : ∀ x, x ∈ acc → x ∈ (if p ∈ acc then acc else acc ++ [p]) := fun x hx => by
          split
          · exact hx
          · exact List.mem_append_left _ hx
        by_cases h : q + ord.length < i
        · exact hsub _ (hall q h)
        · have e := hpi (by omega)
          have e2 : (q : Int) = p := by omega
          rw [e2]
          split
          · assumption
          · simp
      obtain ⟨r, hr, h2, h3⟩ := ih (i + 1) _ (by omega) hP hL hA
      refine ⟨r, fun k hk => ?_, h2, h3⟩
      obtain ⟨k, rfl⟩ : ∃ k', k = k' + 3 := ⟨k - 3, by omega⟩
      refine hpk (k + 1) (by omega) r ?_
      rw [ciboriumlaw04_taken.j2]
      exact seen_l ord (n : Int) (many : Int) acc (by omega) i (by omega) p r ((m + 1) * 24) hr acc.length 0 true (by omega) (by simp) k (by omega)
theorem taken_f (ord : List Int) (ho : ord.length ≤ 100) (n many : Nat) (hn0 : 0 < n) (hn : n ≤ 16) (hm : many ≤ n) : ∃ r, (∀ k, 3000 ≤ k → ciboriumlaw04_taken.f k ord (n : Int) (many : Int) = some r) ∧ Places n r ∧ r.length = many := by
  obtain ⟨r, h1, h2, h3⟩ := taken_l ord ho n many hn0 hn hm (ord.length + n) 0 [] (by omega) ⟨List.nodup_nil, fun x hx => by simp at hx⟩ (by simp) (fun p hp => by omega)
  exact ⟨r, fun k hk => by unfold ciboriumlaw04_taken.f; exact h1 k (by omega), h2, h3⟩
end Go.Proofs.Ytglnepokollijaa.PureTaken
