/- What is said here: the numbers and texts that the reference's reader answers. -/
import Derived.Test.YtengdchgfhcdhaaRReader1
import Derived.Test.YtengdchgfhcdhaaPureBack
namespace Go.Proofs.Ytengdchgfhcdhaa.RReader
set_option linter.unusedVariables false
set_option linter.unusedSimpArgs false
open Go.RowKit Go.Proofs.YtengdchgfhcdhaaW.PrintWords Go.Proofs.YtengdchgfhcdhaaW.PrintLast Go.Proofs.YtengdchgfhcdhaaW.PrintMore
open Reader (Only)

/-- One byte more, as the reference reckons. -/
def step (v x : Int) : Int := IntKind.u64.wrap (IntKind.u64.wrap (256 * v) + x)
def num (l : List Int) : Int := l.foldl step 0
theorem num_snoc (l : List Int) (x : Int) : num (l ++ [x]) = step (num l) x := by simp [num]
/-- It is the same number. -/
theorem num_eq (l : List Int) (hr : ∀ x ∈ l, 0 ≤ x ∧ x < 256) : ∀ m : Nat, m ≤ l.length → m ≤ 8 → num (l.take m) = Reader.num (l.take m) ∧ 0 ≤ Reader.num (l.take m) ∧ Reader.num (l.take m) < 256 ^ m := by
  intro m
  induction m with
  | zero => intro _ _; exact ⟨rfl, by simp [Reader.num], by simp [Reader.num]⟩
  | succ m ih =>
    intro hm h8
    obtain ⟨h1, h2, h3⟩ := ih (by omega) (by omega)
    have hx := hr _ (List.getElem_mem (show m < l.length by omega))
    have hp : (256 : Int) ^ m ≤ 72057594037927936 := by
      have : m = 0 ∨ m = 1 ∨ m = 2 ∨ m = 3 ∨ m = 4 ∨ m = 5 ∨ m = 6 ∨ m = 7 := by omega
      rcases this with rfl | rfl | rfl | rfl | rfl | rfl | rfl | rfl <;> decide
    have hlt := Int.lt_of_lt_of_le h3 hp
    rw [List.take_succ_eq_append_getElem (by omega), num_snoc, Reader.num_snoc, h1, PureBack.step_eq _ _ h2 hlt hx.1 hx.2]
    generalize Reader.num (l.take m) = v at *
    refine ⟨?_, by omega, ?_⟩
    · unfold step
      rw [IntKind.wrap_u64, IntKind.wrap_u64, Int.emod_eq_of_lt (by omega) (by omega), Int.emod_eq_of_lt (by omega) (by omega)]
      omega
    · rw [Int.pow_succ]
      omega
theorem num_eq' (l : List Int) (hr : ∀ x ∈ l, 0 ≤ x ∧ x < 256) (h : l.length ≤ 8) : num l = Reader.num l ∧ 0 ≤ Reader.num l ∧ Reader.num l < 256 ^ l.length := by
  have := num_eq l hr l.length (Nat.le_refl _) h
  rwa [List.take_length] at this

set_option maxHeartbeats 1000000 in
theorem Num_calls (g base : Nat) (A : Option Addr) (c : Nat) (s : Reader.St) (n : Int) (w : World) (h : Is w base g A c s) (hn : -9223372036854775808 ≤ n) (hn2 : n ≤ 9223372036854775807) (hl : s.bs.length ≤ 100000000000000) (hr : ∀ x ∈ s.bs, 0 ≤ x ∧ x < 256) :
    Calls Try.prog 47 #[.pointer (some ⟨g, 0, none⟩), .int .i64 n] w fun e w' => e = .returned (.int .u64 (num (s.takeL n))) ∧ Is w' base g A c (s.takeS n) ∧ Only g w w' := by
  have HT := Lib.hid (Raw_calls g base A c s n w h hn hn2 hl)
  have hlen : (s.takeL n).length ≤ 100000000000000 := Nat.le_trans (Reader.takeL_len s n) hl
  have hrange : ∀ x ∈ s.takeL n, 0 ≤ x ∧ x < 256 := fun x hx => hr x (takeL_mem s n x hx)
  clear h hn hn2 hl hr
  generalize s.takeL n = l at *
  generalize s.takeS n = s2 at *
  obtain ⟨r, hr⟩ : ∃ r, r = num l := ⟨_, rfl⟩
  rw [← hr]
  have Hr := Lib.hid hr
  have HRG := Lib.hid hrange
  clear hr hrange
  go_enter Try.func47, Try.ntmps47
  go_wp2_with fail
  refine HT.out.mono ?_
  rintro e w1 ⟨v, rfl, hR, hI, hO⟩
  obtain ⟨A2, c2, rfl, hlc, hC⟩ := hR.reads
  have HC := Lib.hid hC
  have HI := Lib.hid hI
  have HO := Lib.hid hO
  clear HT hC hI hO hR
  go_wp2_with fail
  by_cases h0 : l.length = 0
  · have hr0 : r = 0 := by rw [Hr.out, List.eq_nil_of_length_eq_zero h0]; rfl
    subst hr0
    rw [h0]
    clear h0 hlc
    go_loop [6, 7] (fun v6 v7 => v6 = .int .u64 0 ∧ v7 = .int .i64 0) (fun _ _ => 0)
    case atStart => exact ⟨rfl, rfl⟩
    case round =>
      obtain ⟨rfl, rfl⟩ := hrel
      go_wp2
      go_ret
      exact ⟨rfl, HI.out, HO.out⟩
  · obtain ⟨ad, rfl, hcc⟩ := Reader.cell_of HC.out (by omega)
    have HCC := Lib.hid hcc
    obtain ⟨n, Hn⟩ : ∃ n, Hid (n = l.length) := ⟨_, rfl⟩
    rw [← Hn.out] at hlen hlc ⊢
    clear hcc h0
    go_loop [6, 7] (fun v6 v7 => ∃ k : Nat, k ≤ n ∧ v7 = .int .i64 (k : Int) ∧ v6 = .int .u64 (num (l.take k))) (fun _ v7 => n - (intOf v7).toNat)
    case atStart => exact ⟨0, by omega, rfl, rfl⟩
    case round =>
      obtain ⟨k, hk, rfl, rfl⟩ := hrel
      by_cases hlt : k < n
      · have hcell := HCC.out k (by rw [← Hn.out]; exact hlt)
        have hkl : k < l.length := by rw [← Hn.out]; exact hlt
        have hx : 0 ≤ l.getD k 0 ∧ l.getD k 0 < 256 := by
          rw [List.getD_eq_getElem?_getD, List.getElem?_eq_getElem hkl]
          exact HRG.out _ (List.getElem_mem hkl)
        have hxw : IntKind.u64.wrap (l.getD k 0) = l.getD k 0 := by rw [IntKind.wrap_u64]; omega
        have hsn : Hid (num (l.take (k + 1)) = step (num (l.take k)) (l.getD k 0)) := by show _ = _; rw [Reader.take_snoc l k hkl, num_snoc]
        generalize l.getD k 0 = x at *
        generalize num (l.take k) = v at *
        go_wp2
        go_round
        case rel => exact ⟨k + 1, by omega, by go_num, by rw [hsn.out]; rfl⟩
        case measure => simp [intOf]; omega
      · obtain rfl : n = k := by omega
        go_wp2
        go_ret
        exact ⟨by rw [show r = num (l.take n) by rw [Hr.out, Hn.out, List.take_length]]; rfl, HI.out, HO.out⟩

/-- Text, told in the reference's way. -/
theorem text_short (s : Reader.St) (h : fitsB s 2 = false) : s.textL = [] ∧ s.textS = fitsS s 2 := by
  have hn : 0 ≤ s.textN := Int.emod_nonneg _ (by decide)
  unfold Reader.St.textL Reader.St.textS fitsS
  generalize s.textN = n at *
  by_cases he : s.e = 0
  · have hs : (s.bs.length : Int) - s.at_ < 2 := by
      unfold fitsB at h
      rw [beq_iff_eq.mpr he, Bool.true_and, decide_eq_false_iff_not] at h
      omega
    have e2 : s.takeS 2 = { s with e := 10 } := by unfold Reader.St.takeS; rw [if_neg (fun h => h he), if_neg (by decide), if_pos hs]
    rw [e2]
    have e3 : ({ s with e := 10 } : Reader.St).takeL n = [] := by unfold Reader.St.takeL; rw [if_pos (by show (10 : Int) ≠ 0; decide)]
    have e4 : ({ s with e := 10 } : Reader.St).takeS n = { s with e := 10 } := by unfold Reader.St.takeS; rw [if_pos (by show (10 : Int) ≠ 0; decide)]
    rw [e3, e4, if_pos (by show (10 : Int) ≠ 0; decide), if_neg (fun h => h he), if_pos hs]
    exact ⟨rfl, rfl⟩
  · have e2 : s.takeS 2 = s := by unfold Reader.St.takeS; rw [if_pos he]
    rw [e2]
    have e3 : s.takeL n = [] := by unfold Reader.St.takeL; rw [if_pos he]
    have e4 : s.takeS n = s := by unfold Reader.St.takeS; rw [if_pos he]
    rw [e3, e4, if_pos he, if_pos he]
    exact ⟨rfl, rfl⟩
/-- What the first two bytes say. -/
def textM (s : Reader.St) : Int := 256 * s.bs.getD s.at_ 0 + s.bs.getD (s.at_ + 1) 0
theorem textN_eq (s : Reader.St) (h : fitsB s 2 = true) (hr : ∀ x ∈ s.bs, 0 ≤ x ∧ x < 256) : s.e = 0 ∧ s.at_ + 2 ≤ s.bs.length ∧ s.textN = textM s ∧ 0 ≤ textM s ∧ textM s < 65536 ∧ s.takeS 2 = { s with at_ := s.at_ + 2 } := by
  unfold fitsB at h
  rw [Bool.and_eq_true, beq_iff_eq, decide_eq_true_eq] at h
  obtain ⟨he, hs⟩ := h
  have h0 : s.at_ < s.bs.length := by omega
  have h1 : s.at_ + 1 < s.bs.length := by omega
  have r0 := hr _ (List.getElem_mem h0)
  have r1 := hr _ (List.getElem_mem h1)
  have d0 : s.bs.getD s.at_ 0 = s.bs[s.at_] := by rw [List.getD_eq_getElem?_getD, List.getElem?_eq_getElem h0]; rfl
  have d1 : s.bs.getD (s.at_ + 1) 0 = s.bs[s.at_ + 1] := by rw [List.getD_eq_getElem?_getD, List.getElem?_eq_getElem h1]; rfl
  have e1 : s.takeL 2 = [s.bs[s.at_], s.bs[s.at_ + 1]] := by
    unfold Reader.St.takeL
    rw [if_neg (fun h => h he), if_neg (by decide), if_neg (by omega), List.drop_eq_getElem_cons h0, List.drop_eq_getElem_cons h1]
    rfl
  have e2 : s.takeS 2 = { s with at_ := s.at_ + 2 } := by
    unfold Reader.St.takeS
    rw [if_neg (fun h => h he), if_neg (by decide), if_neg (by omega)]
    rfl
  have e3 : Reader.num [s.bs[s.at_], s.bs[s.at_ + 1]] = s.bs[s.at_] * 256 + s.bs[s.at_ + 1] := by
    have a1 := PureBack.step_eq 0 s.bs[s.at_] (by decide) (by decide) r0.1 r0.2
    have a2 := PureBack.step_eq s.bs[s.at_] s.bs[s.at_ + 1] (by omega) (by omega) r1.1 r1.2
    show Reader.step (Reader.step 0 _) _ = _
    rw [a1, Int.zero_mul, Int.zero_add, a2]
  have e4 : s.textN = textM s := by
    unfold Reader.St.textN textM
    rw [e1, e3, d0, d1]
    omega
  unfold textM at *
  rw [d0, d1] at *
  exact ⟨he, by omega, e4, by omega, by omega, e2⟩
theorem text_far (s : Reader.St) (h : fitsB s 2 = true) (hr : ∀ x ∈ s.bs, 0 ≤ x ∧ x < 256) (h2 : fitsB s (2 + textM s) = false) : s.textL = [] ∧ s.textS = fitsS s (2 + textM s) := by
  obtain ⟨he, hs, hn, m0, m1, e2⟩ := textN_eq s h hr
  unfold Reader.St.textL Reader.St.textS fitsS
  rw [hn, e2]
  unfold fitsB at h2
  rw [beq_iff_eq.mpr he, Bool.true_and, decide_eq_false_iff_not] at h2
  generalize textM s = n at *
  have hlt : (s.bs.length : Int) - ((s.at_ + 2 : Nat) : Int) < n := by omega
  have e3 : ({ s with at_ := s.at_ + 2 } : Reader.St).takeL n = [] := by
    unfold Reader.St.takeL
    rw [if_neg (fun h => h he), if_neg (by omega), if_pos hlt]
  have e4 : ({ s with at_ := s.at_ + 2 } : Reader.St).takeS n = { s with at_ := s.at_ + 2, e := 10 } := by
    unfold Reader.St.takeS
    rw [if_neg (fun h => h he), if_neg (by omega), if_pos hlt]
  rw [e3, e4, if_pos (by show (10 : Int) ≠ 0; decide), if_neg (fun h => h he), if_pos (by omega)]
  exact ⟨rfl, rfl⟩
theorem text_fits (s : Reader.St) (h : fitsB s 2 = true) (hr : ∀ x ∈ s.bs, 0 ≤ x ∧ x < 256) (h2 : fitsB s (2 + textM s) = true) : s.textL = (s.takeL (2 + textM s)).drop 2 ∧ s.textS = s.takeS (2 + textM s) ∧ fitsS s 2 = s ∧ fitsS s (2 + textM s) = s ∧ 2 ≤ (s.takeL (2 + textM s)).length := by
  obtain ⟨he, hs, hn, m0, m1, e2⟩ := textN_eq s h hr
  unfold Reader.St.textL Reader.St.textS fitsS
  rw [hn, e2]
  unfold fitsB at h2
  rw [beq_iff_eq.mpr he, Bool.true_and, decide_eq_true_eq] at h2
  obtain ⟨n, hm⟩ := Int.eq_ofNat_of_zero_le m0
  rw [hm] at h2 hn m1 ⊢
  have e3 : ({ s with at_ := s.at_ + 2 } : Reader.St).takeL (n : Int) = (s.bs.drop (s.at_ + 2)).take n := by
    unfold Reader.St.takeL
    rw [if_neg (fun h => h he), if_neg (by omega), if_neg (by show ¬ (s.bs.length : Int) - ((s.at_ + 2 : Nat) : Int) < n; omega), Int.toNat_natCast]
  have e4 : ({ s with at_ := s.at_ + 2 } : Reader.St).takeS (n : Int) = { s with at_ := s.at_ + 2 + n } := by
    unfold Reader.St.takeS
    rw [if_neg (fun h => h he), if_neg (by omega), if_neg (by show ¬ (s.bs.length : Int) - ((s.at_ + 2 : Nat) : Int) < n; omega), Int.toNat_natCast]
  have e5 : s.takeL (2 + (n : Int)) = (s.bs.drop s.at_).take (2 + n) := by
    unfold Reader.St.takeL
    rw [if_neg (fun h => h he), if_neg (by omega), if_neg (by omega), show (2 + (n : Int)).toNat = 2 + n by omega]
  have e6 : s.takeS (2 + (n : Int)) = { s with at_ := s.at_ + (2 + n) } := by
    unfold Reader.St.takeS
    rw [if_neg (fun h => h he), if_neg (by omega), if_neg (by omega), show (2 + (n : Int)).toNat = 2 + n by omega]
  rw [e3, e4, e5, e6, if_neg (fun h => h he), if_neg (fun h => h he), if_neg (by omega), if_neg (fun h => h he), if_neg (by omega)]
  refine ⟨?_, ?_, rfl, rfl, ?_⟩
  · rw [List.drop_take, List.drop_drop, Nat.add_sub_cancel_left]
  · rw [Nat.add_assoc]
  · rw [List.length_take, List.length_drop]
    omega
end Go.Proofs.Ytengdchgfhcdhaa.RReader
