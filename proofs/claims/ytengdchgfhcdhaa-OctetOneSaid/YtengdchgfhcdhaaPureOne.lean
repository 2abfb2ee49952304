/- What is said here: what octet.Unhex and octet.Number take, octet.Hex and octet.Digits write so; what these write is taken as what it was. -/
import Derived.Test.YtengdchgfhcdhaaPureHex2
import Derived.Test.YtengdchgfhcdhaaPureNum3
import Derived.Test.YtengdchgfhcdhaaDigits
namespace Go.Proofs.Ytengdchgfhcdhaa.PureOne
set_option linter.unusedVariables false
set_option linter.unusedSimpArgs false
open Go.RowKit Go.Proofs.YtengdchgfhcdhaaW.PrintWords Go.Proofs.YtengdchgfhcdhaaW.PrintLast Go.Proofs.YtengdchgfhcdhaaW.PrintMore
open PureHex Hex Digits

/-- Bytes as a text, and back. -/
theorem bytesOf_str (l : List Int) (hl : ∀ x ∈ l, 0 ≤ x ∧ x < 256) : bytesOf (strOfNums l) = l := by
  have e2 : (strOfNums l).data.toList = l.map fun n => UInt8.ofNat n.toNat := strOfNums_data l
  unfold bytesOf
  rw [e2, List.map_map]
  have h3 : l.map ((fun b : UInt8 => (b.toNat : Int)) ∘ fun n : Int => UInt8.ofNat n.toNat) = l.map id := by
    refine List.map_congr_left (fun x hx => ?_)
    have := hl x hx
    show ((UInt8.ofNat x.toNat).toNat : Int) = x
    rw [UInt8.toNat_ofNat', Nat.mod_eq_of_lt (by omega)]
    omega
  rw [h3, List.map_id]
theorem str_bytesOf (s : ByteArray) : strOfNums (bytesOf s) = s := by
  have e2 : (strOfNums (bytesOf s)).data.toList = (bytesOf s).map fun n => UInt8.ofNat n.toNat := strOfNums_data _
  have : (strOfNums (bytesOf s)).data.toList = s.data.toList := by
    rw [e2]
    unfold bytesOf
    rw [List.map_map]
    refine List.map_id'' (fun x => ?_) _
    simp
  exact ByteArray.ext (Array.toList_inj.1 this)
theorem str_size (l : List Int) : (strOfNums l).size = l.length := by
  have e2 : (strOfNums l).data.toList = l.map fun n => UInt8.ofNat n.toNat := strOfNums_data l
  have := congrArg List.length e2
  rw [List.length_map, Array.length_toList] at this
  exact this
theorem bt_at (s : ByteArray) (i : Nat) (h : i < (bytesOf s).length) : bt s (i : Int) = (bytesOf s)[i] := by
  have hs := bytesOf_length s
  unfold bt
  rw [dif_pos (by rw [Int.toNat_natCast]; omega)]
  simp only [Int.toNat_natCast, bytesOf, List.getElem_map, Array.getElem_toList]
  rfl
theorem bt_str (l : List Int) (hl : ∀ x ∈ l, 0 ≤ x ∧ x < 256) (i : Nat) (h : i < l.length) : bt (strOfNums l) (i : Int) = l[i] := by
  have e := bytesOf_str l hl
  have h2 : i < (bytesOf (strOfNums l)).length := by rw [e]; exact h
  rw [bt_at _ i h2]
  simp only [e]

theorem dig_hv (c : Int) (h0 : 0 ≤ c) (h1 : c ≤ 255) (h : hv c ≠ 16) : dig (hv c) = c := by
  have h2 : ∀ n : Fin 256, hv ((n.val : Nat) : Int) ≠ 16 → dig (hv ((n.val : Nat) : Int)) = ((n.val : Nat) : Int) := by decide +kernel
  have := h2 ⟨c.toNat, by omega⟩
  simp only [Int.toNat_of_nonneg h0] at this
  exact this h
theorem hv_dig (n : Int) (h0 : 0 ≤ n) (h1 : n < 16) : hv (dig n) = n ∧ 0 ≤ dig n ∧ dig n < 256 := by
  have h : ∀ m : Fin 16, hv (dig ((m.val : Nat) : Int)) = ((m.val : Nat) : Int) ∧ 0 ≤ dig ((m.val : Nat) : Int) ∧ dig ((m.val : Nat) : Int) < 256 := by decide +kernel
  have := h ⟨n.toNat, by omega⟩
  simpa only [Int.toNat_of_nonneg h0] using this
theorem hexL_range (b : List Int) (hb : ∀ x ∈ b, 0 ≤ x ∧ x < 256) : ∀ x ∈ hexL b, 0 ≤ x ∧ x < 256 := by
  intro x hx
  obtain ⟨y, hy, hx⟩ := List.mem_flatMap.1 hx
  have := hb y hy
  have h1 := hv_dig (y / 16) (by omega) (by omega)
  have h2 := hv_dig (y % 16) (by omega) (by omega)
  simp at hx
  rcases hx with rfl | rfl
  · exact h1.2
  · exact h2.2

theorem unL_hex (s : ByteArray) (M : Nat) (hM : s.size = 2 * M) (hd : ∀ q, q < s.size → hs s q ≠ 16) (j : Nat) (hj : j ≤ M) : hexL (unL s j) = (bytesOf s).take (2 * j) ∧ ∀ x ∈ unL s j, 0 ≤ x ∧ x < 256 := by
  have hl := bytesOf_length s
  induction j with
  | zero => exact ⟨rfl, fun x hx => by cases hx⟩
  | succ j ih =>
    obtain ⟨ih1, ih2⟩ := ih (by omega)
    have b0 := bt_range s ((2 * j : Nat) : Int)
    have b1 := bt_range s ((2 * j + 1 : Nat) : Int)
    have g0 := hv_range (bt s ((2 * j : Nat) : Int))
    have g1 := hv_range (bt s ((2 * j + 1 : Nat) : Int))
    have d0 : hv (bt s ((2 * j : Nat) : Int)) ≠ 16 := hd (2 * j) (by omega)
    have d1 : hv (bt s ((2 * j + 1 : Nat) : Int)) ≠ 16 := hd (2 * j + 1) (by omega)
    refine ⟨?_, fun x hx => ?_⟩
    · rw [unL, hexL_snoc, ih1]
      unfold hs
      rw [show (16 * hv (bt s ((2 * j : Nat) : Int)) + hv (bt s ((2 * j + 1 : Nat) : Int))) / 16 = hv (bt s ((2 * j : Nat) : Int)) by omega, show (16 * hv (bt s ((2 * j : Nat) : Int)) + hv (bt s ((2 * j + 1 : Nat) : Int))) % 16 = hv (bt s ((2 * j + 1 : Nat) : Int)) by omega, dig_hv _ b0.1 b0.2 d0, dig_hv _ b1.1 b1.2 d1, bt_at s _ (by omega), bt_at s _ (by omega), show 2 * (j + 1) = (2 * j + 1) + 1 by omega, List.take_succ_eq_append_getElem (by omega), List.take_succ_eq_append_getElem (by omega), List.append_assoc]
      rfl
    · rw [unL] at hx
      rcases List.mem_append.1 hx with h | h
      · exact ih2 x h
      · have e := List.mem_singleton.1 h
        unfold hs at e
        omega

/-- What Unhex takes, Hex writes so. -/
theorem unhex_one (s : ByteArray) (hN : s.size ≤ 1000000) : ∃ r1 r2 K, (∀ k, K ≤ k → PA.octet_Unhex.f k s = some (r1, r2)) ∧ r1.length ≤ 1000000 ∧ (∀ x ∈ r1, 0 ≤ x ∧ x < 256) ∧ ((r2 = 0 ∧ strOfNums (hexL r1) = s) ∨ (r2 ≠ 0 ∧ r1 = [])) := by
  have hi2 : (s.size : Int) / 2 = ((s.size / 2 : Nat) : Int) := by omega
  have hU : ∀ k, PA.octet_Unhex.f k s = PA.octet_Unhex.l0 k s (List.replicate (s.size / 2) 0) (s.size : Int) 0 := fun k => by
    rw [PA.octet_Unhex.f, hi2, IntWalk.wrap64_in _ (by omega), if_pos (by omega), if_pos (by omega), Int.toNat_natCast]
  by_cases hbad : ∃ q, 0 ≤ q ∧ q < s.size ∧ hs s q = 16
  · refine ⟨[], 11, s.size + 1, fun k hk => ?_, by simp, by simp, Or.inr ⟨by decide, rfl⟩⟩
    rw [hU]; exact octU_bad s hN s.size 0 (by omega) hbad _ k hk
  · have hd : ∀ q, q < s.size → hs s q ≠ 16 := fun q hq h => hbad ⟨q, Nat.zero_le _, hq, h⟩
    by_cases ho : s.size % 2 = 1
    · refine ⟨[], 10, s.size + 2, fun k hk => ?_, by simp, by simp, Or.inr ⟨by decide, rfl⟩⟩
      rw [hU]; exact octU_odd s hN ho hd s.size 0 (by omega) _ k hk
    · obtain ⟨M, hM⟩ : ∃ M, s.size = 2 * M := ⟨s.size / 2, by omega⟩
      have hx := unL_hex s M hM hd M (Nat.le_refl _)
      refine ⟨unL s M, 0, 2 * s.size + 10, fun k hk => ?_, by rw [unL_length]; omega, hx.2, Or.inl ⟨rfl, ?_⟩⟩
      · rw [hU, show s.size / 2 = M by omega]
        exact octU_even s hN M hM hd M 0 (by omega) k (by omega)
      · rw [hx.1, List.take_of_length_le (by rw [bytesOf_length]; omega), str_bytesOf]
theorem hex_at (b : List Int) : ∀ (j : Nat) (h : j < b.length) (h0 : 2 * j < (hexL b).length) (h1 : 2 * j + 1 < (hexL b).length), (hexL b)[2 * j] = dig (b[j] / 16) ∧ (hexL b)[2 * j + 1] = dig (b[j] % 16) := by
  induction b with
  | nil => intro j h; simp at h
  | cons x b ih =>
    intro j h h0 h1
    have e : hexL (x :: b) = dig (x / 16) :: dig (x % 16) :: hexL b := by simp [hexL]
    have hl := hexL_length b
    cases j with
    | zero => simp only [e]; exact ⟨rfl, rfl⟩
    | succ j =>
      have hj : j < b.length := by simpa using h
      have := ih j hj (by omega) (by omega)
      simp only [e]
      exact this
/-- What Hex writes, Unhex takes as what it was. -/
theorem unhex_back (b : List Int) (hb : ∀ x ∈ b, 0 ≤ x ∧ x < 256) (hN : b.length ≤ 400000) (k : Nat) (hk : 4 * b.length + 10 ≤ k) : PA.octet_Unhex.f k (strOfNums (hexL b)) = some (b, 0) := by
  obtain ⟨s, hs'⟩ : ∃ s, s = strOfNums (hexL b) := ⟨_, rfl⟩
  have hr := hexL_range b hb
  have hl := hexL_length b
  have hsz : s.size = 2 * b.length := by rw [hs', str_size, hl]
  have hat : ∀ j (h : j < b.length), hs s (2 * j) = b[j] / 16 ∧ hs s (2 * j + 1) = b[j] % 16 := by
    intro j h
    have hx := hb _ (List.getElem_mem h)
    have h2 := hex_at b j h (by omega) (by omega)
    unfold hs
    rw [hs', bt_str _ hr _ (by omega), bt_str _ hr _ (by omega), h2.1, h2.2]
    exact ⟨(hv_dig _ (by omega) (by omega)).1, (hv_dig _ (by omega) (by omega)).1⟩
  have hd : ∀ q, q < s.size → hs s q ≠ 16 := by
    intro q hq
    have hj : q / 2 < b.length := by omega
    have hx := hb _ (List.getElem_mem hj)
    have h2 := hat (q / 2) hj
    rcases Nat.mod_two_eq_zero_or_one q with h | h
    · rw [show q = 2 * (q / 2) by omega, h2.1]; omega
    · rw [show q = 2 * (q / 2) + 1 by omega, h2.2]; omega
  have hun : ∀ j, j ≤ b.length → unL s j = b.take j := by
    intro j
    induction j with
    | zero => intro _; rfl
    | succ j ih =>
      intro hj
      have h2 := hat j (by omega)
      rw [unL, ih (by omega), h2.1, h2.2, List.take_succ_eq_append_getElem (by omega)]
      congr 2
      omega
  have hi2 : (s.size : Int) / 2 = ((s.size / 2 : Nat) : Int) := by omega
  have hU : ∀ k, PA.octet_Unhex.f k s = PA.octet_Unhex.l0 k s (List.replicate (s.size / 2) 0) (s.size : Int) 0 := fun k => by
    rw [PA.octet_Unhex.f, hi2, IntWalk.wrap64_in _ (by omega), if_pos (by omega), if_pos (by omega), Int.toNat_natCast]
  rw [← hs', hU, show s.size / 2 = b.length by omega]
  have := octU_even s (by omega) b.length hsz hd b.length 0 (by omega) k (by omega)
  rw [hun b.length (Nat.le_refl _), List.take_length] at this
  exact this

open PureNum
/-- How many digits. -/
def Long (n : Int) (j : Nat) : Prop := 0 < j ∧ n / 10 ^ j = 0 ∧ ∀ i, 0 < i → i < j → n / 10 ^ i ≠ 0
theorem Long.le {m n : Int} {i j : Nat} (hm : Long m i) (hn : Long n j) (h0 : 0 ≤ m) (h : m ≤ n) : i ≤ j := by
  rcases Nat.lt_or_ge j i with hlt | hge
  · have h1 := hm.2.2 j hn.1 hlt
    have h2 : m / 10 ^ j ≤ n / 10 ^ j := Int.ediv_le_ediv (Int.pow_pos (by decide)) h
    have h3 : 0 ≤ m / 10 ^ j := Int.ediv_nonneg h0 (Int.le_of_lt (Int.pow_pos (by decide)))
    rw [hn.2.1] at h2
    exact absurd (Int.le_antisymm h2 h3) h1
  · exact hge
theorem Long.uniq {n : Int} {i j : Nat} (hi : Long n i) (hj : Long n j) (h0 : 0 ≤ n) : i = j := Nat.le_antisymm (hi.le hj h0 (Int.le_refl _)) (hj.le hi h0 (Int.le_refl _))

theorem long20 (n : Int) (j : Nat) (hj : Long n j) (h0 : 0 ≤ n) (h1 : n < 18446744073709551616) : j ≤ 20 := by
  rcases Nat.lt_or_ge 20 j with h | h
  · exact absurd (Int.ediv_eq_zero_of_lt h0 (Int.lt_of_lt_of_le h1 (by decide))) (hj.2.2 20 (by omega) h)
  · exact h
theorem dl_pv (d : Nat → Int) (n : Nat) (h : ∀ i, i < n → 0 ≤ d i ∧ d i ≤ 9) : dl (pv d n) n = (List.range n).map (fun i => 48 + d i) := by
  induction n with
  | zero => rfl
  | succ n ih =>
    have h1 := h n (by omega)
    have h2 := pv_nonneg d n (fun i hi => (h i (by omega)).1)
    rw [dl_snoc, pv, show (10 * pv d n + d n) / 10 = pv d n by omega, show (10 * pv d n + d n) % 10 = d n by omega, ih (fun i hi => h i (by omega)), List.range_succ, List.map_append]
    rfl
/-- What Number takes, Digits writes so. -/
theorem number_one (s : ByteArray) (hN : s.size ≤ 1000000) : ∃ r1 r2 K, (∀ k, K ≤ k → PA.octet_Number.f k s = some (r1, r2)) ∧ ((r2 = 0 ∧ 0 ≤ r1 ∧ r1 < 18446744073709551616 ∧ ∀ j, Long r1 j → strOfNums (dl r1 j) = s) ∨ (r2 ≠ 0 ∧ r1 = 0)) := by
  have e : s.toList = s.data.toList := ByteArray.toList_eq s
  have hs : s.toList.length = s.size := by rw [e, Array.length_toList]; rfl
  by_cases h0 : s.size = 0
  · refine ⟨0, 10, 0, fun k _ => ?_, Or.inr ⟨by decide, rfl⟩⟩
    rw [PA.octet_Number.f, if_pos (List.eq_nil_of_length_eq_zero (by omega))]
  · have hne : ¬ s.toList = [] := fun h => by rw [h] at hs; simp at hs; omega
    by_cases hbad : ∃ q, 0 ≤ q ∧ q < s.size ∧ ¬ isD s q
    · refine ⟨0, 11, s.size, fun k hk => ?_, Or.inr ⟨by decide, rfl⟩⟩
      rw [PA.octet_Number.f, if_neg hne]
      exact octL0_bad s hN s.size 0 (by omega) hbad 0 k hk
    · have hd : ∀ q, q < s.size → isD s q := fun q hq => Classical.byContradiction fun h => hbad ⟨q, Nat.zero_le _, hq, h⟩
      have hL : ∀ k, PA.octet_Number.f (k + s.size + 1) s = (if 0 < (s.size : Int) then (if (bt s 0) = 48 then (PA.octet_Number.j1 k s 0 (decide ((s.size : Int) > 1))) else (PA.octet_Number.j1 k s 0 false)) else none) := fun k => by
        rw [PA.octet_Number.f, if_neg hne]
        exact octL0 s hN s.size 0 (by omega) (fun q _ h => hd q h) 0 k
      have hpos : 0 < (s.size : Int) := by omega
      by_cases hlead : 1 < s.size ∧ bt s 0 = 48
      · refine ⟨0, 11, s.size + 2, fun k hk => ?_, Or.inr ⟨by decide, rfl⟩⟩
        obtain ⟨k, rfl⟩ : ∃ k', k = (k' + 1) + s.size + 1 := ⟨k - s.size - 2, by omega⟩
        rw [hL, if_pos hpos, if_pos hlead.2]
        have e1 : decide ((s.size : Int) > 1) = true := decide_eq_true (by omega)
        rw [e1, PA.octet_Number.j1, if_pos rfl]
      · have hL2 : ∀ k, PA.octet_Number.f (k + s.size + 1) s = PA.octet_Number.j1 k s 0 false := fun k => by
          rw [hL, if_pos hpos]
          by_cases h : bt s 0 = 48
          · rw [if_pos h, decide_eq_false (by omega)]
          · rw [if_neg h]
        have hl1 : ∀ k, PA.octet_Number.j1 (k + 1) s 0 false = PA.octet_Number.l1 k s 0 (s.size : Int) 0 := fun k => by rw [PA.octet_Number.j1, if_neg (by decide)]
        have hdg : ∀ i, i < s.size → 0 ≤ dg s i ∧ dg s i ≤ 9 := fun i hi => by have := hd i hi; unfold isD at this; unfold dg; omega
        by_cases hv : pv (dg s) s.size ≤ 18446744073709551615
        · refine ⟨pv (dg s) s.size, 0, 2 * s.size + 10, fun k hk => ?_, Or.inl ⟨rfl, pv_nonneg _ _ (fun i hi => (hdg i hi).1), Int.lt_of_le_of_lt hv (by decide), fun j hj => ?_⟩⟩
          · obtain ⟨k, rfl⟩ : ∃ k', k = (k' + 2) + s.size + 1 := ⟨k - s.size - 3, by omega⟩
            rw [hL2, hl1]
            exact octL1 s hN hd hv s.size 0 (by omega) _ (by omega)
          · have hlong : Long (pv (dg s) s.size) s.size := by
              refine ⟨by omega, Int.ediv_eq_zero_of_lt (pv_nonneg _ _ (fun i hi => (hdg i hi).1)) (pv_lt _ _ hdg), fun i hi hi2 => ?_⟩
              obtain ⟨n, hn⟩ : ∃ n, s.size = n + 1 := ⟨s.size - 1, by omega⟩
              have hz : 0 < dg s 0 := by
                have h1 := (hdg 0 (by omega)).1
                have h2 : ¬ bt s 0 = 48 := fun h => hlead ⟨by omega, h⟩
                have h3 : dg s 0 = bt s 0 - 48 := rfl
                omega
              have hge := pv_ge (dg s) n (fun i hi => (hdg i (by omega)).1) hz
              rw [← hn] at hge
              have hp := pow10 (show i ≤ n by omega)
              intro hq
              have hlt : pv (dg s) s.size < 10 ^ i := by
                have h5 := Int.lt_mul_ediv_self_add (x := pv (dg s) s.size) (k := (10 : Int) ^ i) (Int.pow_pos (by decide))
                rw [hq, Int.mul_zero, Int.zero_add] at h5
                exact h5
              exact absurd (Int.lt_of_lt_of_le hlt (Int.le_trans hp hge)) (Int.lt_irrefl _)
            have ej := hj.uniq hlong (pv_nonneg _ _ (fun i hi => (hdg i hi).1))
            rw [ej, dl_pv _ _ hdg]
            have : (List.range s.size).map (fun i => 48 + dg s i) = bytesOf s := by
              refine List.ext_getElem (by simp [bytesOf_length]) (fun i h1 h2 => ?_)
              rw [List.getElem_map, List.getElem_range, dg, bt_at s i h2]
              omega
            rw [this, str_bytesOf]
        · refine ⟨0, 12, 2 * s.size + 10, fun k hk => ?_, Or.inr ⟨by decide, rfl⟩⟩
          obtain ⟨k, rfl⟩ : ∃ k', k = (k' + 2) + s.size + 1 := ⟨k - s.size - 3, by omega⟩
          rw [hL2, hl1]
          exact octL1_wide s hN hd (by omega) s.size 0 (by omega) (by show (0 : Int) ≤ _; decide) _ (by omega)

theorem dl_range (n : Int) (j : Nat) : ∀ x ∈ dl n j, 48 ≤ x ∧ x ≤ 57 := by
  induction j with
  | zero => intro x hx; cases hx
  | succ j ih =>
    intro x hx
    rcases List.mem_cons.1 hx with rfl | h
    · omega
    · exact ih x h
theorem dl_at (n : Int) (j : Nat) : ∀ (i : Nat) (h : i < (dl n j).length), (dl n j)[i] = 48 + n / 10 ^ (j - 1 - i) % 10 := by
  induction j with
  | zero => intro i h; simp [dl] at h
  | succ j ih =>
    intro i h
    cases i with
    | zero => rfl
    | succ i =>
      have h2 : i < (dl n j).length := by simpa [dl] using h
      have := ih i h2
      show (dl n j)[i] = _
      rw [this, show j + 1 - 1 - (i + 1) = j - 1 - i by omega]
/-- What Digits writes, Number takes as what it was. -/
theorem number_back (n : Int) (h0 : 0 ≤ n) (h1 : n < 18446744073709551616) (j : Nat) (hj : Long n j) (hj2 : j ≤ 100) (k : Nat) (hk : 2 * j + 10 ≤ k) : PA.octet_Number.f k (strOfNums (dl n j)) = some (n, 0) := by
  obtain ⟨s, hs'⟩ : ∃ s, s = strOfNums (dl n j) := ⟨_, rfl⟩
  have hr := dl_range n j
  have hr2 : ∀ x ∈ dl n j, 0 ≤ x ∧ x < 256 := fun x hx => by have := hr x hx; omega
  have hl := dl_length n j
  have hsz : s.size = j := by rw [hs', str_size, hl]
  have hj0 := hj.1
  have hat : ∀ i, i < j → bt s (i : Int) = 48 + n / 10 ^ (j - 1 - i) % 10 := by
    intro i hi
    rw [hs', bt_str _ hr2 i (by omega), dl_at n j i (by omega)]
  have hd : ∀ q, q < s.size → isD s q := by
    intro q hq
    unfold isD
    rw [hat q (by omega)]
    omega
  have hpv : ∀ i, i ≤ j → pv (dg s) i = n / 10 ^ (j - i) := by
    intro i
    induction i with
    | zero => intro _; rw [pv, Nat.sub_zero, hj.2.1]
    | succ i ih =>
      intro hi
      have e1 : dg s i = n / 10 ^ (j - 1 - i) % 10 := by unfold dg; rw [hat i (by omega)]; omega
      have e2 : n / 10 ^ (j - i) = n / 10 ^ (j - 1 - i) / 10 := by
        rw [show j - i = (j - 1 - i) + 1 by omega, Int.pow_succ, Int.ediv_ediv_of_nonneg (Int.le_of_lt (Int.pow_pos (by decide)))]
      rw [pv, ih (by omega), e1, e2, show j - (i + 1) = j - 1 - i by omega]
      omega
  have hv : pv (dg s) s.size = n := by
    rw [hsz, hpv j (Nat.le_refl _), Nat.sub_self, Int.pow_zero, Int.ediv_one]
  have e : s.toList = s.data.toList := ByteArray.toList_eq s
  have hs : s.toList.length = s.size := by rw [e, Array.length_toList]; rfl
  have hne : ¬ s.toList = [] := fun h => by rw [h] at hs; simp at hs; omega
  have hpos : 0 < (s.size : Int) := by omega
  have hN : s.size ≤ 1000000 := by omega
  have hlead : ¬ (1 < s.size ∧ bt s 0 = 48) := by
    rintro ⟨hx, hy⟩
    have hz := hat 0 (by omega)
    rw [show bt s ((0 : Nat) : Int) = bt s 0 from rfl, hy, Nat.sub_zero] at hz
    have h2 := hj.2.2 (j - 1) (by omega) (by omega)
    have h3 : n / 10 ^ (j - 1) / 10 = 0 := by
      rw [Int.ediv_ediv_of_nonneg (Int.le_of_lt (Int.pow_pos (by decide))), ← Int.pow_succ, show (j - 1).succ = j by omega]
      exact hj.2.1
    have h4 : 0 ≤ n / 10 ^ (j - 1) := Int.ediv_nonneg h0 (Int.le_of_lt (Int.pow_pos (by decide)))
    omega
  have hL : ∀ k, PA.octet_Number.f (k + s.size + 1) s = (if 0 < (s.size : Int) then (if (bt s 0) = 48 then (PA.octet_Number.j1 k s 0 (decide ((s.size : Int) > 1))) else (PA.octet_Number.j1 k s 0 false)) else none) := fun k => by
    rw [PA.octet_Number.f, if_neg hne]
    exact octL0 s hN s.size 0 (by omega) (fun q _ h => hd q h) 0 k
  have hL2 : ∀ k, PA.octet_Number.f (k + s.size + 1) s = PA.octet_Number.j1 k s 0 false := fun k => by
    rw [hL, if_pos hpos]
    by_cases h : bt s 0 = 48
    · rw [if_pos h, decide_eq_false (by omega)]
    · rw [if_neg h]
  have hl1 : ∀ k, PA.octet_Number.j1 (k + 1) s 0 false = PA.octet_Number.l1 k s 0 (s.size : Int) 0 := fun k => by rw [PA.octet_Number.j1, if_neg (by decide)]
  rw [← hs']
  obtain ⟨k, rfl⟩ : ∃ k', k = (k' + 2) + s.size + 1 := ⟨k - s.size - 3, by omega⟩
  rw [hL2, hl1]
  have := octL1 s hN hd (by rw [hv]; omega) s.size 0 (by omega) (k + 1) (by omega)
  rw [hv] at this
  exact this
end Go.Proofs.Ytengdchgfhcdhaa.PureOne
