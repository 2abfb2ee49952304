/- What is said here: the numbers, bytes and texts that octet's reader answers. -/
import Derived.Test.YtengdchgfhcdhaaReader
namespace Go.Proofs.Ytengdchgfhcdhaa.Reader
set_option linter.unusedVariables false
set_option linter.unusedSimpArgs false
open Go.RowKit Go.Proofs.YtengdchgfhcdhaaW.PrintWords Go.Proofs.YtengdchgfhcdhaaW.PrintLast Go.Proofs.YtengdchgfhcdhaaW.PrintMore

/-- One byte more. -/
def step (v x : Int) : Int := Go.bits .or .u64 (IntKind.u64.wrap (v * 256)) (IntKind.u64.wrap x)
/-- The number that bytes are, the highest first. -/
def num (l : List Int) : Int := l.foldl step 0
theorem num_snoc (l : List Int) (x : Int) : num (l ++ [x]) = step (num l) x := by simp [num]
theorem take_snoc (l : List Int) (k : Nat) (h : k < l.length) : l.take (k + 1) = l.take k ++ [l.getD k 0] := by
  rw [List.take_succ_eq_append_getElem h, List.getD_eq_getElem?_getD, List.getElem?_eq_getElem h]
  rfl
theorem cell_of {W : World} {A : Option Addr} {l : List Int} (h : Kd.C (Kd.int .u8) W A l.length l) (hl : 0 < l.length) : ∃ ad, A = some ad ∧ ∀ k, k < l.length → W.cell? (ad.add k) = some (.int .u8 (l.getD k 0)) := by
  obtain ⟨ad, e, hc⟩ := h.2.2 hl
  refine ⟨ad, e, fun k hk => ?_⟩
  obtain ⟨c, h1, h2, h3⟩ := hc k _ (List.getElem?_eq_getElem hk)
  have hcs : c = [Value.int .u8 l[k]] := h2
  subst hcs
  have h4 : W.cell? (ad.add (k * 1 + 0)) = some (Value.int .u8 l[k]) := h3 0 _ rfl
  rw [Nat.mul_one, Nat.add_zero] at h4
  rw [h4, List.getD_eq_getElem?_getD, List.getElem?_eq_getElem hk]
  rfl

set_option maxHeartbeats 1000000 in
theorem number_nil (n : Int) (w : World) : Calls Try.prog 52 #[.pointer none, .int .i64 n] w fun e w' => e = .returned (.int .u64 0) ∧ w = w' := by
  go_enter Try.func52, Try.ntmps52
  go_wp2_with (go_at_call 53; refine (take_nil _ _).mono ?_; rintro e w' ⟨rfl, rfl⟩)
  go_loop [4, 11] (fun v4 v11 => v4 = .int .u64 0 ∧ v11 = .int .i64 0) (fun _ _ => 0)
  case atStart => exact ⟨rfl, rfl⟩
  case round =>
    obtain ⟨rfl, rfl⟩ := hrel
    go_wp2
    go_ret
    exact ⟨rfl, rfl⟩

set_option maxHeartbeats 1000000 in
theorem number_calls (g base : Nat) (A : Option Addr) (c : Nat) (s : St) (n : Int) (w : World) (h : Is w base g A c s) (hn : -9223372036854775808 ≤ n) (hn2 : n ≤ 9223372036854775807) :
    Calls Try.prog 52 #[.pointer (some ⟨g, 0, none⟩), .int .i64 n] w fun e w' => e = .returned (.int .u64 (num (s.takeL n))) ∧ Is w' base g A c (s.takeS n) ∧ Only g w w' := by
  have HT := Lib.hid (take_calls g base A c s n w h hn hn2)
  clear h hn hn2
  generalize s.takeL n = l at *
  generalize s.takeS n = s2 at *
  obtain ⟨r, hr⟩ : ∃ r, r = num l := ⟨_, rfl⟩
  rw [← hr]
  have Hr := Lib.hid hr
  clear hr
  go_enter Try.func52, Try.ntmps52
  go_wp2_with fail
  refine HT.out.mono ?_
  rintro e w1 ⟨A2, c2, rfl, hlc, hC, hI, hO⟩
  have hm : l.length ≤ 9223372036854775807 := hC.2.1
  have HC := Lib.hid hC
  have HI := Lib.hid hI
  have HO := Lib.hid hO
  clear HT hC hI hO
  go_wp2_with fail
  by_cases h0 : l.length = 0
  · have hr0 : r = 0 := by rw [Hr.out, List.eq_nil_of_length_eq_zero h0]; rfl
    subst hr0
    rw [h0]
    clear h0 hlc
    go_loop [4, 11] (fun v4 v11 => v4 = .int .u64 0 ∧ v11 = .int .i64 0) (fun _ _ => 0)
    case atStart => exact ⟨rfl, rfl⟩
    case round =>
      obtain ⟨rfl, rfl⟩ := hrel
      go_wp2
      go_ret
      exact ⟨rfl, HI.out, HO.out⟩
  · obtain ⟨ad, rfl, hcc⟩ := cell_of HC.out (by omega)
    have HCC := Lib.hid hcc
    obtain ⟨n, Hn⟩ : ∃ n, Hid (n = l.length) := ⟨_, rfl⟩
    rw [← Hn.out] at hm hlc ⊢
    clear hcc h0
    go_loop [4, 11] (fun v4 v11 => ∃ k : Nat, k ≤ n ∧ v11 = .int .i64 (k : Int) ∧ v4 = .int .u64 (num (l.take k))) (fun _ v11 => n - (intOf v11).toNat)
    case atStart => exact ⟨0, by omega, rfl, rfl⟩
    case round =>
      obtain ⟨k, hk, rfl, rfl⟩ := hrel
      by_cases hlt : k < n
      · have hcell := HCC.out k (by rw [← Hn.out]; exact hlt)
        have hsn : Hid (num (l.take (k + 1)) = step (num (l.take k)) (l.getD k 0)) := by show _ = _; rw [take_snoc l k (by rw [← Hn.out]; exact hlt), num_snoc]
        generalize l.getD k 0 = x at *
        generalize num (l.take k) = v at *
        go_wp2
        go_round
        case rel => exact ⟨k + 1, by omega, by go_num, by rw [hsn.out]; rfl⟩
        case measure => simp [intOf]; omega
      · obtain rfl : n = k := by omega
        go_wp2
        go_ret
        exact ⟨by rw [show r = num (l.take n) by rw [Hr.out, Hn.out, List.take_length]]; rfl, HI.out, HO.out⟩

theorem U8_nil (w : World) : Calls Try.prog 25 #[.pointer none] w fun e w' => e = .returned (.int .u8 0) ∧ w = w' := by
  go_enter Try.func25, Try.ntmps25
  go_wp2_with (go_at_call 52; refine (number_nil _ _).mono ?_; rintro e w' ⟨rfl, rfl⟩)
  go_ret
  exact ⟨rfl, rfl⟩
theorem U8_calls (g base : Nat) (A : Option Addr) (c : Nat) (s : St) (w : World) (h : Is w base g A c s) : Calls Try.prog 25 #[.pointer (some ⟨g, 0, none⟩)] w fun e w' => e = .returned (.int .u8 (num (s.takeL 1) % 256)) ∧ Is w' base g A c (s.takeS 1) ∧ Only g w w' := by
  have HT := Lib.hid (number_calls g base A c s 1 w h (by decide) (by decide))
  clear h
  generalize s.takeS 1 = s2 at *
  generalize num (s.takeL 1) = v at *
  go_enter Try.func25, Try.ntmps25
  go_wp2_with fail
  refine HT.out.mono ?_
  rintro e w1 ⟨rfl, hI, hO⟩
  have HI := Lib.hid hI
  have HO := Lib.hid hO
  clear hI hO
  go_wp2
  go_ret
  exact ⟨by first | rfl | (simp; done) | (simp [IntKind.wrap_u16]; done), HI.out, HO.out⟩

theorem U16_nil (w : World) : Calls Try.prog 26 #[.pointer none] w fun e w' => e = .returned (.int .u16 0) ∧ w = w' := by
  go_enter Try.func26, Try.ntmps26
  go_wp2_with (go_at_call 52; refine (number_nil _ _).mono ?_; rintro e w' ⟨rfl, rfl⟩)
  go_ret
  exact ⟨rfl, rfl⟩
theorem U16_calls (g base : Nat) (A : Option Addr) (c : Nat) (s : St) (w : World) (h : Is w base g A c s) : Calls Try.prog 26 #[.pointer (some ⟨g, 0, none⟩)] w fun e w' => e = .returned (.int .u16 (num (s.takeL 2) % 65536)) ∧ Is w' base g A c (s.takeS 2) ∧ Only g w w' := by
  have HT := Lib.hid (number_calls g base A c s 2 w h (by decide) (by decide))
  clear h
  generalize s.takeS 2 = s2 at *
  generalize num (s.takeL 2) = v at *
  go_enter Try.func26, Try.ntmps26
  go_wp2_with fail
  refine HT.out.mono ?_
  rintro e w1 ⟨rfl, hI, hO⟩
  have HI := Lib.hid hI
  have HO := Lib.hid hO
  clear hI hO
  go_wp2
  go_ret
  exact ⟨by first | rfl | (simp; done) | (simp [IntKind.wrap_u16]; done), HI.out, HO.out⟩

theorem U32_nil (w : World) : Calls Try.prog 27 #[.pointer none] w fun e w' => e = .returned (.int .u32 0) ∧ w = w' := by
  go_enter Try.func27, Try.ntmps27
  go_wp2_with (go_at_call 52; refine (number_nil _ _).mono ?_; rintro e w' ⟨rfl, rfl⟩)
  go_ret
  exact ⟨rfl, rfl⟩
theorem U32_calls (g base : Nat) (A : Option Addr) (c : Nat) (s : St) (w : World) (h : Is w base g A c s) : Calls Try.prog 27 #[.pointer (some ⟨g, 0, none⟩)] w fun e w' => e = .returned (.int .u32 (num (s.takeL 4) % 4294967296)) ∧ Is w' base g A c (s.takeS 4) ∧ Only g w w' := by
  have HT := Lib.hid (number_calls g base A c s 4 w h (by decide) (by decide))
  clear h
  generalize s.takeS 4 = s2 at *
  generalize num (s.takeL 4) = v at *
  go_enter Try.func27, Try.ntmps27
  go_wp2_with fail
  refine HT.out.mono ?_
  rintro e w1 ⟨rfl, hI, hO⟩
  have HI := Lib.hid hI
  have HO := Lib.hid hO
  clear hI hO
  go_wp2
  go_ret
  exact ⟨by first | rfl | (simp; done) | (simp [IntKind.wrap_u16]; done), HI.out, HO.out⟩

theorem U64_nil (w : World) : Calls Try.prog 28 #[.pointer none] w fun e w' => e = .returned (.int .u64 0) ∧ w = w' := by
  go_enter Try.func28, Try.ntmps28
  go_wp2_with (go_at_call 52; refine (number_nil _ _).mono ?_; rintro e w' ⟨rfl, rfl⟩)
  go_ret
  exact ⟨rfl, rfl⟩
theorem U64_calls (g base : Nat) (A : Option Addr) (c : Nat) (s : St) (w : World) (h : Is w base g A c s) : Calls Try.prog 28 #[.pointer (some ⟨g, 0, none⟩)] w fun e w' => e = .returned (.int .u64 (num (s.takeL 8))) ∧ Is w' base g A c (s.takeS 8) ∧ Only g w w' := by
  have HT := Lib.hid (number_calls g base A c s 8 w h (by decide) (by decide))
  clear h
  generalize s.takeS 8 = s2 at *
  generalize num (s.takeL 8) = v at *
  go_enter Try.func28, Try.ntmps28
  go_wp2_with fail
  refine HT.out.mono ?_
  rintro e w1 ⟨rfl, hI, hO⟩
  have HI := Lib.hid hI
  have HO := Lib.hid hO
  clear hI hO
  go_wp2
  go_ret
  exact ⟨by first | rfl | (simp; done) | (simp [IntKind.wrap_u16]; done), HI.out, HO.out⟩

theorem Err_nil (w : World) : Calls Try.prog 32 #[.pointer none] w fun e w' => e = .returned (.int .i64 1) ∧ w = w' := by
  go_enter Try.func32, Try.ntmps32
  go_wp2
  go_ret
  exact ⟨rfl, rfl⟩
theorem Err_calls (g base : Nat) (A : Option Addr) (c : Nat) (s : St) (w : World) (h : Is w base g A c s) : Calls Try.prog 32 #[.pointer (some ⟨g, 0, none⟩)] w fun e w' => e = .returned (.int .i64 s.e) ∧ w = w' := by
  obtain ⟨h1, h2, h3⟩ := h.ex
  have x2 : w.cell? ⟨g, 2, none⟩ = some (.int .i64 s.e) := h1.cell 2
  clear h h1 h2 h3
  go_enter Try.func32, Try.ntmps32
  go_wp2
  go_ret
  exact ⟨rfl, rfl⟩
theorem Left_nil (w : World) : Calls Try.prog 31 #[.pointer none] w fun e w' => e = .returned (.int .i64 0) ∧ w = w' := by
  go_enter Try.func31, Try.ntmps31
  go_wp2
  go_ret
  exact ⟨rfl, rfl⟩
theorem Left_calls (g base : Nat) (A : Option Addr) (c : Nat) (s : St) (w : World) (h : Is w base g A c s) : Calls Try.prog 31 #[.pointer (some ⟨g, 0, none⟩)] w fun e w' => e = .returned (.int .i64 ((s.bs.length : Int) - s.at_)) ∧ Drawn0 w w' := by
  obtain ⟨h1, h2, h3⟩ := h.ex
  have hat := h.at_
  have x0 : w.cell? ⟨g, 0, none⟩ = some (.slice A s.bs.length c) := h1.cell 0
  have x1 : w.cell? ⟨g, 1, none⟩ = some (.int .i64 (s.at_ : Int)) := h1.cell 1
  have hmx := h2.max
  have hm1 := hmx.1
  have hm2 := hmx.2
  clear h h1 h2 h3 hmx
  go_enter Try.func31, Try.ntmps31
  go_wp2
  go_quiet (fail)
  go_wp2
  go_ret
  exact ⟨rfl, ⟨_, rfl⟩⟩
end Go.Proofs.Ytengdchgfhcdhaa.Reader
