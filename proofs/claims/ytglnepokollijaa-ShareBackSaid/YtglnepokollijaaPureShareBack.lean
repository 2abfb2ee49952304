/- It is proved here that enough shares of a secret, in any order, tell the secret: as whole numbers and lists alone. -/
import Derived.Test.YtglnepokollijaaPSx4
import Derived.Test.YtglnepokollijaaLagT
namespace Go.Proofs.Ytglnepokollijaa.PureBack
set_option linter.unusedVariables false
set_option linter.unusedSimpArgs false
open Go.RowKit Go.Proofs.Ytglnepokollijaa.PS Go.Proofs.YtglnepokollijaaW.PrintWords Go.Proofs.YtglnepokollijaaW.PrintLast
open Gf Gfi Poly Lag LagT

theorem works_0 : ciboriumlaw04_works.f 3 = some true := by decide +kernel
theorem works_f (k : Nat) (hk : 3 ≤ k) : ciboriumlaw04_works.f k = some true := by
  obtain ⟨d, rfl⟩ : ∃ d, k = 3 + d := ⟨k - 3, by omega⟩
  clear hk
  induction d with
  | zero => exact works_0
  | succ d ih => exact ciboriumlaw04_works.mono (3 + d) _ ih
theorem mod_f (x n : Int) (hn : 0 < n) (hn1 : n ≤ 1000000) : ciboriumlaw04_mod.f x n = some (x % n) := by
  unfold ciboriumlaw04_mod.f
  rw [if_neg (by omega)]
  have h1 := Int.emod_nonneg x (show n ≠ 0 by omega)
  have h2 := Int.emod_lt_of_pos x hn
  have h3 : Int.tmod x n = x % n ∨ Int.tmod x n = x % n - n := by
    rw [Int.tmod_eq_emod]
    split
    · left; omega
    · right; rw [show ((n.natAbs : Nat) : Int) = n by omega]
  split
  · rename_i h
    have h4 : Int.tmod x n + n = x % n := by omega
    rw [h4, IntWalk.wrap64_in _ (by omega)]
  · rename_i h
    congr 1
    omega
theorem filled_l (ds : List Int) (hr : ∀ x ∈ ds, 0 ≤ x ∧ x < 256) (n : Nat) (hn : n ≤ 1000000) (m : Nat) : ∀ (i : Nat) (acc : List Int), i + m = n → acc.length = i → (∀ x ∈ acc, 0 ≤ x ∧ x < 256) → ∀ k, m + 1 ≤ k →
    ∃ out, ciboriumlaw04_filled.l0 k ds (n : Int) acc (i : Int) = some out ∧ out.length = n ∧ ∀ x ∈ out, 0 ≤ x ∧ x < 256 := by
  induction m with
  | zero =>
    intro i acc hi ha hx k hk
    obtain ⟨k, rfl⟩ : ∃ k', k = k' + 1 := ⟨k - 1, by omega⟩
    exact ⟨acc, by rw [ciboriumlaw04_filled.l0, if_neg (by omega)], by omega, hx⟩
  | succ m ih =>
    intro i acc hi ha hx k hk
    obtain ⟨k, rfl⟩ : ∃ k', k = k' + 1 := ⟨k - 1, by omega⟩
    have hw : wrap64 ((i : Int) + 1) = ((i + 1 : Nat) : Int) := by rw [IntWalk.wrap64_in _ (by omega)]; omega
    by_cases h0 : (ds.length : Int) = 0
    · obtain ⟨out, h1, h2, h3⟩ := ih (i + 1) (acc ++ [0]) (by omega) (by rw [List.length_append, List.length_singleton]; omega) (fun x h => by
        rcases List.mem_append.1 h with h | h
        · exact hx x h
        · rw [List.mem_singleton.1 h]; decide) k (by omega)
      exact ⟨out, by rw [ciboriumlaw04_filled.l0, if_pos (by omega), if_pos h0, if_pos (by omega), hw]; exact h1, h2, h3⟩
    · have e : Int.tmod (i : Int) (ds.length : Int) = ((i % ds.length : Nat) : Int) := rfl
      have hlt : i % ds.length < ds.length := Nat.mod_lt _ (by omega)
      have hm : rd ds ((i % ds.length : Nat) : Int) ∈ ds := by
        unfold rd
        rw [Int.toNat_natCast, List.getD_eq_getElem?_getD, List.getElem?_eq_getElem hlt]
        exact List.getElem_mem hlt
      obtain ⟨out, h1, h2, h3⟩ := ih (i + 1) (acc ++ [rd ds ((i % ds.length : Nat) : Int)]) (by omega) (by rw [List.length_append, List.length_singleton]; omega) (fun x h => by
        rcases List.mem_append.1 h with h | h
        · exact hx x h
        · rw [List.mem_singleton.1 h]; exact hr _ hm) k (by omega)
      exact ⟨out, by rw [ciboriumlaw04_filled.l0, if_pos (by omega), if_neg h0, e, if_pos (by omega), if_pos (by omega), if_pos (by omega), hw]; exact h1, h2, h3⟩
theorem all_len (n : Nat) : ∀ l : List Int, (∀ p : Nat, p < n → (p : Int) ∈ l) → n ≤ l.length := by
  induction n with
  | zero => intro l _; omega
  | succ n ih =>
    intro l h
    have hm := h n (by omega)
    have h1 := ih (l.erase (n : Int)) (fun p hp => (List.mem_erase_of_ne (by omega)).2 (h p (by omega)))
    rw [List.length_erase_of_mem hm] at h1
    have h2 : 0 < l.length := List.length_pos_of_mem hm
    omega
/-- Places, each once, below n. -/
structure Places (n : Nat) (l : List Int) : Prop where
  nd : l.Nodup
  rg : ∀ x ∈ l, 0 ≤ x ∧ x < (n : Int)
theorem Places.add {n : Nat} {l : List Int} (h : Places n l) (p : Int) (h0 : 0 ≤ p) (h1 : p < (n : Int)) (hp : p ∉ l) : Places n (l ++ [p]) :=
  ⟨by rw [List.nodup_append]; exact ⟨h.nd, by simp, fun a ha b hb => by rw [List.mem_singleton.1 hb]; exact fun e => hp (e ▸ ha)⟩, fun x hx => by
    rcases List.mem_append.1 hx with hx | hx
    · exact h.rg x hx
    · rw [List.mem_singleton.1 hx]; exact ⟨h0, h1⟩⟩
theorem rd_at (l : List Int) (q : Nat) (h : q < l.length) : rd l (q : Int) = l[q] := by
  unfold rd
  rw [Int.toNat_natCast, List.getD_eq_getElem?_getD, List.getElem?_eq_getElem h]
  rfl
theorem seen_l (ord : List Int) (n many : Int) (acc : List Int) (ha : acc.length ≤ 100000) (i : Nat) (hi : i ≤ 100000) (p : Int) (r : List Int) (K : Nat)
    (h : ∀ k, K ≤ k → ciboriumlaw04_taken.l0 k ord n many (if p ∈ acc then acc else acc ++ [p]) ((i + 1 : Nat) : Int) = some r) (m : Nat) : ∀ (q : Nat) (fresh : Bool), q + m = acc.length → fresh = decide (p ∉ acc.take q) → ∀ k, K + m + 1 ≤ k →
    ciboriumlaw04_taken.l1 k ord n many acc (i : Int) p fresh (q : Int) = some r := by
  have hw : wrap64 ((i : Int) + 1) = ((i + 1 : Nat) : Int) := by rw [IntWalk.wrap64_in _ (by omega)]; omega
  induction m with
  | zero =>
    intro q fresh hq hf k hk
    obtain ⟨k, rfl⟩ : ∃ k', k = k' + 1 := ⟨k - 1, by omega⟩
    rw [ciboriumlaw04_taken.l1, if_neg (by omega), hw]
    rw [List.take_of_length_le (by omega)] at hf
    by_cases hp : p ∈ acc
    · rw [hf, decide_eq_false (by simpa using hp), if_neg (by decide)]
      have := h k (by omega)
      rwa [if_pos hp] at this
    · rw [hf, decide_eq_true hp, if_pos rfl, if_pos (by omega)]
      have := h k (by omega)
      rwa [if_neg hp] at this
  | succ m ih =>
    intro q fresh hq hf k hk
    obtain ⟨k, rfl⟩ : ∃ k', k = k' + 1 := ⟨k - 1, by omega⟩
    have hwq : wrap64 ((q : Int) + 1) = ((q + 1 : Nat) : Int) := by rw [IntWalk.wrap64_in _ (by omega)]; omega
    have hql : q < acc.length := by omega
    rw [ciboriumlaw04_taken.l1, if_pos (by omega), hwq]
    have ht : acc.take (q + 1) = acc.take q ++ [acc[q]] := List.take_succ_eq_append_getElem hql
    cases fresh with
    | true =>
      rw [if_pos rfl, if_pos (by omega), rd_at acc q hql]
      refine ih (q + 1) _ (by omega) ?_ k (by omega)
      have hf' : p ∉ acc.take q := of_decide_eq_true hf.symm
      rw [Bool.eq_iff_iff, decide_eq_true_eq, bne_iff_ne, ht, List.mem_append, List.mem_singleton]
      exact ⟨fun h h2 => h2.elim hf' (fun e => h e.symm), fun h e => h (Or.inr e.symm)⟩
    | false =>
      rw [if_neg (by decide)]
      refine ih (q + 1) _ (by omega) ?_ k (by omega)
      have hf' : p ∈ acc.take q := Decidable.not_not.1 (of_decide_eq_false hf.symm)
      rw [decide_eq_false]
      rw [ht, List.mem_append]
      exact fun h => h (Or.inl hf')
theorem taken_l (ord : List Int) (ho : ord.length ≤ 100) (n many : Nat) (hn0 : 0 < n) (hn : n ≤ 16) (hm : many ≤ n) (m : Nat) : ∀ (i : Nat) (acc : List Int), i + m = ord.length + n → Places n acc → acc.length ≤ many → (∀ p : Nat, p + ord.length < i → (p : Int) ∈ acc) →
    ∃ r, (∀ k, (m + 1) * 24 ≤ k → ciboriumlaw04_taken.l0 k ord (n : Int) (many : Int) acc (i : Int) = some r) ∧ Places n r ∧ r.length = many := by
  have hwl : wrap64 ((ord.length : Int) + (n : Int)) = ((ord.length + n : Nat) : Int) := by rw [IntWalk.wrap64_in _ (by omega)]; omega
  have stop : ∀ (i : Nat) (acc : List Int), (ord.length + n ≤ i ∨ many ≤ acc.length) → ∀ k, 2 ≤ k → ciboriumlaw04_taken.l0 k ord (n : Int) (many : Int) acc (i : Int) = some acc := by
    intro i acc h k hk
    obtain ⟨k, rfl⟩ : ∃ k', k = k' + 2 := ⟨k - 2, by omega⟩
    rw [ciboriumlaw04_taken.l0, hwl]
    by_cases h1 : ord.length + n ≤ i
    · rw [if_neg (by omega), ciboriumlaw04_taken.j1, if_neg (by decide)]
    · rw [if_pos (by omega), decide_eq_false (by omega), ciboriumlaw04_taken.j1, if_neg (by decide)]
  induction m with
  | zero =>
    intro i acc hi hp hl hall
    refine ⟨acc, fun k hk => stop i acc (Or.inl (by omega)) k (by omega), hp, ?_⟩
    have := all_len n acc (fun p hp => hall p (by omega))
    omega
  | succ m ih =>
    intro i acc hi hp hl hall
    by_cases hfull : many ≤ acc.length
    · exact ⟨acc, fun k hk => stop i acc (Or.inr hfull) k (by omega), hp, by omega⟩
    · -- the place that is looked at
      obtain ⟨p, hp0, hp1, hpk, hpi⟩ : ∃ p : Int, 0 ≤ p ∧ p < (n : Int) ∧ (∀ k, 1 ≤ k → ∀ r, ciboriumlaw04_taken.j2 k ord (n : Int) (many : Int) acc (i : Int) p = some r → ciboriumlaw04_taken.l0 (k + 2) ord (n : Int) (many : Int) acc (i : Int) = some r) ∧ (ord.length ≤ i → p = (i : Int) - (ord.length : Int)) := by
        by_cases hio : i < ord.length
        · refine ⟨rd ord (i : Int) % (n : Int), Int.emod_nonneg _ (by omega), Int.emod_lt_of_pos _ (by omega), fun k _ r h => ?_, fun h => by omega⟩
          rw [ciboriumlaw04_taken.l0, hwl, if_pos (by omega), decide_eq_true (by omega), ciboriumlaw04_taken.j1, if_pos rfl, if_neg (by omega), if_pos (by omega), if_pos (by omega), mod_f _ _ (by omega) (by omega), Option.bind_some]
          exact h
        · have hwi : wrap64 ((i : Int) - (ord.length : Int)) = (i : Int) - (ord.length : Int) := IntWalk.wrap64_in _ (by omega)
          refine ⟨(i : Int) - (ord.length : Int), by omega, by omega, fun k _ r h => ?_, fun _ => rfl⟩
          rw [ciboriumlaw04_taken.l0, hwl, if_pos (by omega), decide_eq_true (by omega), ciboriumlaw04_taken.j1, if_pos rfl, if_neg (by omega), if_neg (by omega), hwi]
          exact h
      have hP : Places n (if p ∈ acc then acc else acc ++ [p]) := by
        by_cases h : p ∈ acc
        · rw [if_pos h]; exact hp
        · rw [if_neg h]; exact hp.add p hp0 hp1 h
      have hL : (if p ∈ acc then acc else acc ++ [p]).length ≤ many := by
        by_cases h : p ∈ acc
        · rw [if_pos h]; omega
        · rw [if_neg h, List.length_append, List.length_singleton]; omega
      have hA : ∀ q : Nat, q + ord.length < i + 1 → (q : Int) ∈ (if p ∈ acc then acc else acc ++ [p]) := by
        intro q hq
        have hsub : ∀ x, x ∈ acc → x ∈ (if p ∈ acc then acc else acc ++ [p]) := fun x hx => by
          split
          · exact hx
          · exact List.mem_append_left _ hx
        by_cases h : q + ord.length < i
        · exact hsub _ (hall q h)
        · have e := hpi (by omega)
          have e2 : (q : Int) = p := by omega
          rw [e2]
          split
          · assumption
          · simp
      obtain ⟨r, hr, h2, h3⟩ := ih (i + 1) _ (by omega) hP hL hA
      refine ⟨r, fun k hk => ?_, h2, h3⟩
      obtain ⟨k, rfl⟩ : ∃ k', k = k' + 3 := ⟨k - 3, by omega⟩
      refine hpk (k + 1) (by omega) r ?_
      rw [ciboriumlaw04_taken.j2]
      exact seen_l ord (n : Int) (many : Int) acc (by omega) i (by omega) p r ((m + 1) * 24) hr acc.length 0 true (by omega) (by simp) k (by omega)
theorem taken_f (ord : List Int) (ho : ord.length ≤ 100) (n many : Nat) (hn0 : 0 < n) (hn : n ≤ 16) (hm : many ≤ n) : ∃ r, (∀ k, 3000 ≤ k → ciboriumlaw04_taken.f k ord (n : Int) (many : Int) = some r) ∧ Places n r ∧ r.length = many := by
  obtain ⟨r, h1, h2, h3⟩ := taken_l ord ho n many hn0 hn hm (ord.length + n) 0 [] (by omega) ⟨List.nodup_nil, fun x hx => by simp at hx⟩ (by simp) (fun p hp => by omega)
  exact ⟨r, fun k hk => by unfold ciboriumlaw04_taken.f; exact h1 k (by omega), h2, h3⟩
/-! Shares at places. -/
def sh (bs ds : List B) (k : Nat) (p : Int) : S44 := ⟨((p.toNat : Nat) : Int) + 1, Share.yr bs ds k (Share.xB p.toNat) bs.length⟩
theorem split_at (bs ds : List B) (k n : Nat) (p : Int) (h0 : 0 ≤ p) (h1 : p < (n : Int)) : rd_T44 (splitR bs ds k n) p = sh bs ds k p := by
  unfold rd_T44 splitR sh
  rw [List.getD_eq_getElem?_getD, List.getElem?_map, List.getElem?_range (by omega)]
  rfl
theorem sh_get (bs ds : List B) (k : Nat) (at_ : List Int) (i : Nat) (h : i < at_.length) : (at_.map (sh bs ds k)).getD i z44 = sh bs ds k at_[i] := by
  rw [List.getD_eq_getElem?_getD, List.getElem?_map, List.getElem?_eq_getElem h]
  rfl
theorem xB_inj {p q : Nat} (hp : p < 16) (hq : q < 16) (h : Share.xB p = Share.xB q) : p = q := by
  have := congrArg ofB h
  rw [Share.xB_int p (by omega), Share.xB_int q (by omega)] at this
  omega
theorem xB_ne {p : Nat} (hp : p < 16) : Share.xB p ≠ 0#8 := by
  intro h
  have := congrArg ofB h
  rw [Share.xB_int p (by omega), ofB_zero] at this
  omega
theorem toB_place (p : Nat) (hp : p < 16) : toB (((p : Nat) : Int) + 1) = Share.xB p := by
  rw [← Share.xB_int p (by omega), toB_ofB]
/-- The places as elements. -/
def xsOf (bs ds : List B) (k : Nat) (at_ : List Int) : Nat → B := fun i => toB ((at_.map (sh bs ds k)).getD i z44).f0
theorem xs_at (bs ds : List B) (k n : Nat) (hn : n ≤ 16) (at_ : List Int) (hp : Places n at_) (i : Nat) (h : i < at_.length) : xsOf bs ds k at_ i = Share.xB at_[i].toNat := by
  unfold xsOf
  rw [sh_get bs ds k at_ i h]
  have := hp.rg _ (List.getElem_mem h)
  exact toB_place _ (by omega)
theorem xs_fresh (bs ds : List B) (k n : Nat) (hn : n ≤ 16) (at_ : List Int) (hp : Places n at_) (i : Nat) (h : i < at_.length) : xsOf bs ds k at_ i ≠ 0#8 ∧ xsOf bs ds k at_ i ∉ Share.pre (xsOf bs ds k at_) i := by
  have hr := hp.rg _ (List.getElem_mem h)
  rw [xs_at bs ds k n hn at_ hp i h]
  refine ⟨xB_ne (by omega), fun hm => ?_⟩
  unfold Share.pre at hm
  obtain ⟨q, hq, e⟩ := List.mem_map.1 hm
  rw [List.mem_range] at hq
  rw [xs_at bs ds k n hn at_ hp q (by omega)] at e
  have hr2 := hp.rg _ (List.getElem_mem (show q < at_.length by omega))
  have := xB_inj (by omega) (by omega) e
  have e2 : at_[q] = at_[i] := by omega
  exact (List.pairwise_iff_getElem.1 hp.nd q i (by omega) h hq) e2
theorem fr_pre (bs ds : List B) (k n : Nat) (hn : n ≤ 16) (at_ : List Int) (hp : Places n at_) (i : Nat) (h : i ≤ at_.length) : Share.fr (xsOf bs ds k at_) i = Share.pre (xsOf bs ds k at_) i := by
  induction i with
  | zero => rfl
  | succ i ih =>
    have hf := xs_fresh bs ds k n hn at_ hp i (by omega)
    rw [Share.fr, ih (by omega), if_neg (fun h => h.elim hf.1 hf.2), Share.pre_succ]
theorem places_len {bs ds : List B} {k n : Nat} {l : List Int} (h : Places n l) (hn : n ≤ 16) : ∀ s ∈ l.map (sh bs ds k), 0 ≤ s.f0 ∧ s.f0 < 256 := by
  intro s hs
  obtain ⟨p, hp, rfl⟩ := List.mem_map.1 hs
  have := h.rg p hp
  show 0 ≤ ((p.toNat : Nat) : Int) + 1 ∧ ((p.toNat : Nat) : Int) + 1 < 256
  omega
theorem need_f (bs ds : List B) (k n : Nat) (hn : n ≤ 16) (at_ : List Int) (hp : Places n at_) (hl : at_.length ≤ 16) (kk : Nat) (hk : kk ≤ 16) : share_Need.f (at_.map (sh bs ds k)) (kk : Int) = some (if kk ≤ at_.length then 0 else (kk : Int) - (at_.length : Int)) := by
  unfold share_Need.f
  rw [if_pos ⟨by rw [List.length_map]; omega, places_len hp hn, by omega, by omega⟩]
  show some (Share.need (xsOf bs ds k at_) (at_.map (sh bs ds k)).length (kk : Int)) = _
  unfold Share.need
  rw [List.length_map, fr_pre bs ds k n hn at_ hp _ (Nat.le_refl _), Share.pre_len]
  congr 1
  by_cases h : kk ≤ at_.length
  · rw [if_pos h, if_pos (by omega)]
  · rw [if_neg h, if_neg (by omega)]
/-! Put together. -/
theorem ints_toB (l : List B) : (ints l).map toB = l := by
  unfold ints
  rw [List.map_map]
  exact (List.map_congr_left (fun x _ => toB_ofB x)).trans (List.map_id' l)
theorem yr_full (bs ds : List B) (k : Nat) (x : B) : Share.yr bs ds k x bs.length = ints ((List.range bs.length).map (Share.yb bs ds k x)) := by
  unfold Share.yr
  rw [Nat.sub_self, List.replicate_zero, List.append_nil]
theorem ints_byteL (l : List B) : byteL (ints l) := by
  intro x hx
  obtain ⟨b, _, rfl⟩ := List.mem_map.1 hx
  exact ofB_range b
/-- The shares' bytes. -/
def bsOf (bs ds : List B) (k : Nat) (at_ : List Int) : Nat → List B := fun i => ((at_.map (sh bs ds k)).getD i z44).f1.map toB
theorem bs_at (bs ds : List B) (k : Nat) (at_ : List Int) (i : Nat) (h : i < at_.length) : bsOf bs ds k at_ i = (List.range bs.length).map (Share.yb bs ds k (Share.xB at_[i].toNat)) := by
  unfold bsOf
  rw [sh_get bs ds k at_ i h]
  show (Share.yr bs ds k (Share.xB at_[i].toNat) bs.length).map toB = _
  rw [yr_full, ints_toB]
theorem good_at (bs ds : List B) (k n : Nat) (hn : n ≤ 16) (at_ : List Int) (hp : Places n at_) (i : Nat) (h : i ≤ at_.length) : Share.goodS (xsOf bs ds k at_) (bsOf bs ds k at_) i := by
  induction i with
  | zero => trivial
  | succ i ih =>
    have hf := xs_fresh bs ds k n hn at_ hp i (by omega)
    refine ⟨ih (by omega), hf.1, hf.2, ?_⟩
    rw [bs_at bs ds k at_ i (by omega), bs_at bs ds k at_ 0 (by omega), List.length_map, List.length_map]
theorem ok_at (bs ds : List B) (k n : Nat) (hn : n ≤ 16) (at_ : List Int) (hp : Places n at_) (i : Nat) (h : i ≤ at_.length) : Lag.ok (Share.pre (xsOf bs ds k at_) i) := by
  induction i with
  | zero => exact Lag.ok_nil
  | succ i ih =>
    have hf := xs_fresh bs ds k n hn at_ hp i (by omega)
    rw [Share.pre_succ]
    exact (Lag.ok_snoc _ _).2 ⟨ih (by omega), hf.1, hf.2⟩
theorem secret_byte (bs ds : List B) (k n : Nat) (hk : 1 ≤ k) (hd : ds.length = (k - 1) * bs.length) (hn : n ≤ 16) (at_ : List Int) (hp : Places n at_) (h0 : 0 < at_.length) (hm : k ≤ at_.length) (j : Nat) (hj : j < bs.length) :
    (AtZero.res (Share.pre (xsOf bs ds k at_) at_.length) (Share.col (bsOf bs ds k at_) at_.length j)).1 = ofB (bs.getD j 0#8) := by
  have hok := ok_at bs ds k n hn at_ hp at_.length (Nat.le_refl _)
  have hl1 : (Share.pre (xsOf bs ds k at_) at_.length).length = at_.length := Share.pre_len _ _
  have hl2 : (Share.col (bsOf bs ds k at_) at_.length j).length = at_.length := by unfold Share.col; rw [List.length_map, List.length_range]
  unfold AtZero.res
  rw [if_neg (by rw [hl1, hl2]; rintro (h | h | h); omega; exact h rfl; exact h hok)]
  show ofB (atZero _ _) = _
  have hdl : (Share.dr ds k j).length = k - 1 := by
    unfold Share.dr
    have h1 : (k - 1) * (j + 1) ≤ (k - 1) * bs.length := Nat.mul_le_mul_left _ (by omega)
    rw [List.length_drop, List.length_take, hd, Nat.min_eq_left h1, Nat.mul_succ]
    omega
  rw [LagT.through (Share.pre (xsOf bs ds k at_) at_.length) (bs.getD j 0#8 :: Share.dr ds k j) _ hok (by rw [hl1, List.length_cons, hdl]; omega) (fun i hi => by
    rw [hl1] at hi
    have e1 : (Share.col (bsOf bs ds k at_) at_.length j).getD i 0#8 = Share.yb bs ds k (Share.xB at_[i].toNat) j := by
      unfold Share.col
      rw [List.getD_eq_getElem?_getD, List.getElem?_map, List.getElem?_range hi, Option.map_some, Option.getD_some, bs_at bs ds k at_ i hi, List.getD_eq_getElem?_getD, List.getElem?_map, List.getElem?_range hj]
      rfl
    have e2 : (Share.pre (xsOf bs ds k at_) at_.length).getD i 0#8 = Share.xB at_[i].toNat := by
      unfold Share.pre
      rw [List.getD_eq_getElem?_getD, List.getElem?_map, List.getElem?_range hi, Option.map_some, Option.getD_some, xs_at bs ds k n hn at_ hp i hi]
    rw [e1, e2]
    rfl)]
  rfl
theorem comb_f (bs ds : List B) (k n : Nat) (hk : 1 ≤ k) (hL : bs.length ≤ 1024) (hd : ds.length = (k - 1) * bs.length) (hn : n ≤ 16) (at_ : List Int) (hp : Places n at_) (hl : at_.length ≤ 16) (hm : k ≤ at_.length) : share_Combine.f (at_.map (sh bs ds k)) = some (ints bs, 0) := by
  have hlen : ∀ s ∈ at_.map (sh bs ds k), s.f1.length = bs.length := by
    intro s hs
    obtain ⟨p, _, rfl⟩ := List.mem_map.1 hs
    exact Share.yr_len _ _ _ _ _ (Nat.le_refl _)
  unfold share_Combine.f
  rw [if_pos ⟨by rw [List.length_map]; omega, fun s hs => ⟨places_len hp hn s hs, by
    obtain ⟨p, _, rfl⟩ := List.mem_map.1 hs
    show byteL (Share.yr bs ds k _ bs.length)
    rw [yr_full]
    exact ints_byteL _, by rw [hlen s hs]; omega⟩⟩, if_neg (by rw [List.length_map]; omega), if_neg (fun h => h (fun s hs => by rw [hlen s hs]; omega))]
  have hg := good_at bs ds k n hn at_ hp at_.length (Nat.le_refl _)
  have hb0 : (bsOf bs ds k at_ 0).length = bs.length := by rw [bs_at bs ds k at_ 0 (by omega), List.length_map, List.length_range]
  show some (Share.combL (xsOf bs ds k at_) (bsOf bs ds k at_) (at_.map (sh bs ds k)).length, Share.combE (xsOf bs ds k at_) (bsOf bs ds k at_) (at_.map (sh bs ds k)).length) = _
  unfold Share.combL Share.combE
  rw [List.length_map, if_pos hg, if_pos hg, hb0]
  congr 2
  apply List.ext_getElem
  · unfold Share.outL
    rw [List.length_map, List.length_range, ints_length]
  · intro j h1 h2
    rw [ints_length] at h2
    have hs := secret_byte bs ds k n hk hd hn at_ hp (by omega) hm j h2
    simp only [Share.outL, List.getElem_map, List.getElem_range, ints]
    rw [hs, List.getD_eq_getElem?_getD, List.getElem?_eq_getElem h2]
    rfl
/-! The law. -/
theorem eq_f (l : List Int) : ciboriumref00_EqBytes.f l l = some true := by unfold ciboriumref00_EqBytes.f; simp
theorem collect (bs ds : List B) (kk n many : Nat) (hk : 1 ≤ kk) (hkn : kk ≤ many) (hn : n ≤ 16) (at_ : List Int) (hp : Places n at_) (hl : at_.length = many) (hm : many ≤ n) (y0 y1 : List Int) (a2 a3 : Int) (y4 y5 : List Int) (k : Nat) (m : Nat) : ∀ i : Nat, i + m = at_.length →
    ciboriumlaw04_ShareBack.l1 (k + m + 1) (n : Int) (kk : Int) (splitR bs ds kk n) (many : Int) ((at_.take i).map (sh bs ds kk)) at_ (i : Int) y0 y1 a2 a3 y4 y5 = ciboriumlaw04_ShareBack.j4 k (n : Int) (kk : Int) (splitR bs ds kk n) (many : Int) (at_.map (sh bs ds kk)) false y0 y1 a2 a3 y4 y5 := by
  induction m with
  | zero =>
    intro i hi
    obtain ⟨t, rfl⟩ : ∃ t, kk = t + 1 := ⟨kk - 1, by omega⟩
    have hp2 : Places n (at_.take t) := ⟨hp.nd.sublist (List.take_sublist _ _), fun x hx => hp.rg x (List.mem_of_mem_take hx)⟩
    have hl2 : (at_.take t).length = t := by rw [List.length_take]; omega
    have hn1 := need_f bs ds (t + 1) n hn at_ hp (by omega) (t + 1) (by omega)
    have hn2 := need_f bs ds (t + 1) n hn (at_.take t) hp2 (by omega) (t + 1) (by omega)
    rw [if_pos (by omega)] at hn1
    rw [if_neg (by omega), hl2] at hn2
    have hone : ((t + 1 : Nat) : Int) - (t : Int) = 1 := by omega
    rw [hone] at hn2
    have hlt : ¬ ((i : Int) < (at_.length : Int)) := by omega
    have htl : at_.length ≤ i := by omega
    have h0t : (0 : Int) ≤ (t : Int) := by omega
    have htm : (t : Int) ≤ ((at_.map (sh bs ds (t + 1))).length : Int) := by rw [List.length_map]; omega
    have hw : wrap64 (((t + 1 : Nat) : Int) - 1) = (t : Int) := by rw [show (((t + 1 : Nat) : Int) - 1) = (t : Int) by omega, IntWalk.wrap64_in _ (by omega)]
    rw [ciboriumlaw04_ShareBack.l1, if_neg hlt, List.take_of_length_le htl, hn1, Option.bind_some, if_pos rfl, hw, if_pos h0t, if_pos htm, Int.toNat_natCast, ← List.map_take, hn2, Option.bind_some]
    rfl
  | succ m ih =>
    intro i hi
    have hil : i < at_.length := by omega
    have hr := hp.rg _ (List.getElem_mem hil)
    have hw : wrap64 ((i : Int) + 1) = ((i + 1 : Nat) : Int) := by rw [IntWalk.wrap64_in _ (by omega)]; omega
    have hsl : (splitR bs ds kk n).length = n := by unfold splitR; rw [List.length_map, List.length_range]
    rw [show k + (m + 1) + 1 = (k + m + 1) + 1 by omega, ciboriumlaw04_ShareBack.l1, if_pos (by omega), if_pos (by omega), rd_at at_ i hil, if_pos (by omega), if_pos (by rw [hsl]; omega), if_pos (by rw [List.length_map, List.length_take]; omega), split_at bs ds kk n _ hr.1 hr.2, hw]
    have e : (at_.take i).map (sh bs ds kk) ++ [(⟨(sh bs ds kk at_[i]).f0, (sh bs ds kk at_[i]).f1⟩ : S44)] = (at_.take (i + 1)).map (sh bs ds kk) := by
      rw [List.take_succ_eq_append_getElem hil, List.map_append]
      rfl
    rw [e]
    exact ih (i + 1) (by omega)
theorem back_l (bs ds : List B) (kk n : Nat) (hk : 1 ≤ kk) (hkn : kk ≤ n) (hn : n ≤ 16) (hL : bs.length ≤ 1024) (hd : ds.length = (kk - 1) * bs.length) (y1 : List Int) (a2 a3 : Int) (y4 y5 : List Int) (hy : y5.length ≤ 100) (d : Nat) : ∀ many : Nat, many + d = n + 1 → kk ≤ many → ∀ k, 4000 + d * 40 ≤ k →
    ciboriumlaw04_ShareBack.l0 k (n : Int) (kk : Int) (splitR bs ds kk n) (many : Int) (ints bs) y1 a2 a3 y4 y5 = some true := by
  induction d with
  | zero =>
    intro many hm _ k hk2
    obtain ⟨k, rfl⟩ : ∃ k', k = k' + 1 := ⟨k - 1, by omega⟩
    rw [ciboriumlaw04_ShareBack.l0, if_neg (by omega), works_f k (by omega)]
    rfl
  | succ d ih =>
    intro many hm hkm k hk2
    obtain ⟨r, hr, hp, hrl⟩ := taken_f y5 hy n many (by omega) hn (by omega)
    have hrl16 : r.length ≤ 16 := by omega
    have hmn : many ≤ n := by omega
    have hmi : (many : Int) ≤ (n : Int) := by omega
    have hkr : kk ≤ r.length := by omega
    have hs1 : (many + 1) + d = n + 1 := by omega
    have hs2 : kk ≤ many + 1 := by omega
    have hbig : 4020 + d * 40 ≤ k := by omega
    have hms : (many : Int) + 1 = ((many + 1 : Nat) : Int) := by omega
    have hsm : many + 1 ≤ 1000 := by omega
    clear hkn hkm hk2 hm
    obtain ⟨e, he⟩ : ∃ e, k = e + 1 + r.length + 1 + 1 := ⟨k - r.length - 3, by omega⟩
    have he1 : 3000 ≤ e + 1 + r.length + 1 := by omega
    have he2 : 4000 + d * 40 ≤ e := by omega
    clear hbig
    subst he
    have hc := collect bs ds kk n many hk (by rw [← hrl]; exact hkr) hn r hp hrl hmn (ints bs) y1 a2 a3 y4 y5 (e + 1) r.length 0 (Nat.zero_add _)
    rw [List.take_zero, List.map_nil] at hc
    have hc2 : ciboriumlaw04_ShareBack.l1 (e + 1 + r.length + 1) (n : Int) (kk : Int) (splitR bs ds kk n) (many : Int) [] r 0 (ints bs) y1 a2 a3 y4 y5 = ciboriumlaw04_ShareBack.j4 (e + 1) (n : Int) (kk : Int) (splitR bs ds kk n) (many : Int) (r.map (sh bs ds kk)) false (ints bs) y1 a2 a3 y4 y5 := hc
    have hco := comb_f bs ds kk n hk hL hd hn r hp hrl16 hkr
    have hw : wrap64 ((many : Int) + 1) = ((many + 1 : Nat) : Int) := by rw [hms]; exact IntWalk.wrap64_in _ ⟨by clear hc hc2 hco ih hr; omega, by clear hc hc2 hco ih hr; omega⟩
    rw [ciboriumlaw04_ShareBack.l0, if_pos hmi, hr _ he1, Option.bind_some, hc2, ciboriumlaw04_ShareBack.j4, if_neg (by decide), hco, Option.bind_some, if_pos rfl, eq_f, Option.bind_some, if_pos rfl, hw]
    exact ih (many + 1) hs1 hs2 e he2
theorem ShareBack (y0 y1 : List Int) (a2 a3 : Int) (y4 y5 : List Int) (h0 : ∀ x ∈ y0, 0 ≤ x ∧ x < 256) (h4 : ∀ x ∈ y4, 0 ≤ x ∧ x < 256) : ciboriumlaw04_ShareBack.f 10000 y0 y1 a2 a3 y4 y5 = some true := by
  have hfar : ciboriumlaw04_ShareBack.j0 10000 true y0 y1 a2 a3 y4 y5 = some true := by
    show ciboriumlaw04_ShareBack.j0 (9999 + 1) true y0 y1 a2 a3 y4 y5 = some true
    rw [ciboriumlaw04_ShareBack.j0, if_pos rfl, works_f 9999 (by decide)]
    rfl
  unfold ciboriumlaw04_ShareBack.f
  by_cases hA : (y0.length : Int) > 200
  · rw [if_pos hA]; exact hfar
  · rw [if_neg hA]
    by_cases hB : (y5.length : Int) > 100
    · rw [decide_eq_true hB]; exact hfar
    · rw [decide_eq_false hB]
      show ciboriumlaw04_ShareBack.j0 (9999 + 1) false y0 y1 a2 a3 y4 y5 = some true
      obtain ⟨n, hn⟩ : ∃ n : Nat, (n : Int) = 1 + a2 % 16 := ⟨(1 + a2 % 16).toNat, by omega⟩
      have hn1 : 1 ≤ n ∧ n ≤ 16 := by omega
      have hk0 := Int.emod_nonneg a3 (show (n : Int) ≠ 0 by omega)
      have hk1 := Int.emod_lt_of_pos a3 (show (0 : Int) < (n : Int) by omega)
      obtain ⟨kk, hkk⟩ : ∃ kk : Nat, (kk : Int) = 1 + a3 % (n : Int) := ⟨(1 + a3 % (n : Int)).toNat, by omega⟩
      obtain ⟨t, rfl⟩ : ∃ t, kk = t + 1 := ⟨kk - 1, by omega⟩
      have hb : t * y0.length ≤ 15 * 200 := Nat.mul_le_mul (by omega) (by omega)
      have ht1 : (((t + 1 : Nat) : Int) - 1) = (t : Int) := by omega
      have hknn : t + 1 ≤ n := by omega
      have hyl : y0.length ≤ 200 := by omega
      have hy5 : y5.length ≤ 100 := by omega
      have hd1 : n + 1 - (t + 1) = n - t := by omega
      have hd2 : (t + 1) + (n - t) = n + 1 := by omega
      have hd3 : 4000 + (n - t) * 40 ≤ 9998 := by omega
      have hge1 : ¬ (((t + 1 : Nat) : Int) < 1 ∨ (n : Int) < ((t + 1 : Nat) : Int) ∨ 16 < (n : Int)) := by omega
      have hw1 : wrap64 (1 + a2 % 16) = (n : Int) := by rw [← hn, IntWalk.wrap64_in _ (by omega)]
      have hw2 : wrap64 (1 + a3 % (n : Int)) = ((t + 1 : Nat) : Int) := by rw [← hkk, IntWalk.wrap64_in _ (by omega)]
      have hw3 : wrap64 (((t + 1 : Nat) : Int) - 1) = (t : Int) := by rw [ht1, IntWalk.wrap64_in _ (by omega)]
      have hw4 : wrap64 ((t : Int) * (y0.length : Int)) = ((t * y0.length : Nat) : Int) := by
        rw [← Int.natCast_mul, IntWalk.wrap64_in _ (by omega)]
      have hm16 := mod_f a2 16 (by decide) (by decide)
      have hmn := mod_f a3 (n : Int) (by omega) (by omega)
      obtain ⟨dr, hdr, hdl, hdx⟩ := filled_l y4 h4 (t * y0.length) (Nat.le_trans hb (by decide)) (t * y0.length) 0 [] (Nat.zero_add _) rfl (fun x hx => by simp at hx) 9999 (Nat.le_trans (Nat.succ_le_succ hb) (by decide))
      have hfil : ciboriumlaw04_filled.f 9999 y4 ((t * y0.length : Nat) : Int) = some dr := hdr
      have hcp : ciboriumref00_CopyBytes.f y0 = some y0 := by
        unfold ciboriumref00_CopyBytes.f
        rw [if_pos (by rw [List.length_nil, Nat.zero_add]; exact Nat.lt_of_le_of_lt hyl (by decide))]
        rfl
      have hsp : share_Split.f y0 (n : Int) ((t + 1 : Nat) : Int) dr = some (splitR (y0.map toB) (dr.map toB) (t + 1) n, 0) := by
        unfold share_Split.f
        have hD : (dr.length : Int) = (((t + 1 : Nat) : Int) - 1) * (y0.length : Int) := by rw [hdl, ht1, Int.natCast_mul]
        have hlen : ¬ 1024 < y0.length := by clear hw1 hw2 hw3 hw4; omega
        rw [if_pos ⟨Nat.le_trans hyl (by decide), by rw [hdl]; exact Nat.le_trans hb (by decide), h0, hdx⟩, if_neg hge1, if_neg hlen, if_neg (fun h => h hD), Int.toNat_natCast, Int.toNat_natCast]
      have hi0 : ints (y0.map toB) = y0 := byteL_ints h0
      have hsl : (splitR (y0.map toB) (dr.map toB) (t + 1) n).length = n := by unfold splitR; rw [List.length_map, List.length_range]
      rw [ciboriumlaw04_ShareBack.j0, if_neg (by decide), hm16, Option.bind_some, hw1, hmn, Option.bind_some, hcp, Option.bind_some, hw2, hw3, hw4, hfil, Option.bind_some, hsp, Option.bind_some, if_pos rfl]
      show ciboriumlaw04_ShareBack.j1 (9998 + 1) (n : Int) ((t + 1 : Nat) : Int) (splitR (y0.map toB) (dr.map toB) (t + 1) n) (((splitR (y0.map toB) (dr.map toB) (t + 1) n).length : Int) != (n : Int)) y0 y1 a2 a3 y4 y5 = some true
      rw [hsl, show ((n : Int) != (n : Int)) = false by simp, ciboriumlaw04_ShareBack.j1, if_neg (by decide)]
      have := back_l (y0.map toB) (dr.map toB) (t + 1) n (Nat.succ_le_succ (Nat.zero_le _)) hknn hn1.2 (by rw [List.length_map]; exact Nat.le_trans hyl (by decide)) (by rw [List.length_map, List.length_map]; exact hdl) y1 a2 a3 y4 y5 hy5 (n - t) (t + 1) hd2 (Nat.le_refl _) 9998 hd3
      rw [hi0] at this
      exact this
end Go.Proofs.Ytglnepokollijaa.PureBack
