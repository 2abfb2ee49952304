/- What is said here: octet.Put16, Put32, Put64 put a number's bytes, the highest first, behind bytes, in new memory. -/
import Derived.Test.YtengdchgfhcdhaaRow
namespace Go.Proofs.Ytengdchgfhcdhaa.Put
set_option linter.unusedVariables false
set_option linter.unusedSimpArgs false
open Go.RowKit Go.Proofs.YtengdchgfhcdhaaW.PrintWords Go.Proofs.YtengdchgfhcdhaaW.PrintLast Go.Proofs.YtengdchgfhcdhaaW.PrintMore

/-- A number's lowest bytes, the highest of them first. -/
def be (n : Int) : Nat → List Int
  | 0 => []
  | s + 1 => be (n / 256) s ++ [n % 256]
theorem be_length (n : Int) (s : Nat) : (be n s).length = s := by
  induction s generalizing n with
  | zero => rfl
  | succ s ih => rw [be, List.length_append, ih]; rfl
/-- Bytes written from the end on. -/
theorem set_step (b : List Int) (s i : Nat) (n : Int) (hi : i < s) (x : Int) (r : List Int) (hr : r.length = i) :
    (b ++ List.replicate (s - i) 0 ++ r).set (b.length + s - 1 - i) x = b ++ List.replicate (s - (i + 1)) 0 ++ (x :: r) := by
  have e : List.replicate (s - i) (0 : Int) = List.replicate (s - (i + 1)) 0 ++ [0] := by
    rw [show s - i = (s - (i + 1)) + 1 by omega, List.replicate_succ']
  rw [e, ← List.append_assoc b, List.append_assoc, List.set_append_right _ _ (by rw [List.length_append, List.length_replicate]; omega)]
  rw [List.length_append, List.length_replicate, show b.length + s - 1 - i - (b.length + (s - (i + 1))) = 0 by omega]
  rfl
theorem be_cons (s : Nat) : ∀ n : Int, be n (s + 1) = (n / 256 ^ s % 256) :: be n s := by
  induction s with
  | zero => intro n; simp [be]
  | succ s ih =>
    intro n
    rw [be, ih, be, List.cons_append, Int.ediv_ediv_of_nonneg (by omega), show (256 : Int) * 256 ^ s = 256 ^ (s + 1) by rw [Int.pow_succ, Int.mul_comm]]

set_option maxHeartbeats 1000000 in
theorem put16 (A0 : Option Addr) (c0 : Nat) (b : List Int) (n : Int) (s : Nat) (w : World) (hr : Kd.C (Kd.int .u8) w A0 b.length b) (hc : b.length ≤ c0) (hn : 0 ≤ n) (hs : 0 < s) (hs2 : s ≤ 8) (hl : b.length ≤ 100000000000000) :
    Calls Try.prog 44 #[.slice A0 b.length c0, .int .u16 n, .int .i64 (s : Int)] w fun e w' => ∃ v, e = .returned v ∧ Row.Is w' w.heap.size v (b ++ be n s) ∧ Below w.heap.size w w' := by
  have HR := Lib.hid hr
  clear hr
  have hmk : IntKind.i64.wrap ((b.length : Int) + (s : Int)) = ((b.length + s : Nat) : Int) := IntWalk.i64_in _ (by omega)
  go_enter Try.func44, Try.ntmps44
  go_wp2_with (first | (refine Row.make (.tmp 12) (.tmp 12) (b.length + s) rfl rfl rfl rfl (by omega) ?_; intro w1 h1 hg1) | (refine Row.copy (.tmp 14) (.tmp 15) w.heap.size (b.length + s) (b.length + s) (List.replicate (b.length + s) 0) A0 b.length c0 b rfl rfl rfl rfl h1 (Kd.C_below HR.out ((Below.refl w.heap.size w).grown hg1 (Nat.le_refl _) (fun k e => by cases e))) rfl (by simp) ?_; intro w2 h2 hb2))
  have hB2 : Below w.heap.size w w2 := ((Below.refl w.heap.size w).grown hg1 (Nat.le_refl _) (fun k e => by cases e)).trans hb2
  have h2' : Row.Is w2 w.heap.size (.slice (some ⟨w.heap.size, 0, none⟩) (b.length + s) (b.length + s)) (b ++ List.replicate s 0) := by
    rw [List.drop_replicate, Nat.add_sub_cancel_left] at h2
    exact h2
  have H2 := Lib.hid h2'
  have HB2 := Lib.hid hB2
  clear h1 hg1 h2 hb2 hB2 h2' HR hmk
  go_loopw [1, 18] (fun v1 v18 wr => ∃ i : Nat, i ≤ s ∧ v18 = .int .i64 (i : Int) ∧ v1 = .int .u16 (n / 256 ^ i) ∧ Hid (Row.Is wr w.heap.size (.slice (some ⟨w.heap.size, 0, none⟩) (b.length + s) (b.length + s)) (b ++ List.replicate (s - i) 0 ++ be n i)) ∧ Hid (Below w.heap.size w wr)) (fun _ v18 _ => s - (intOf v18).toNat)
  case atStart => exact ⟨0, by omega, rfl, by simp, (show Row.Is _ _ _ _ by simpa [be] using H2.out), HB2⟩
  case round =>
    obtain ⟨i, hi, rfl, rfl, HR, HB⟩ := hrel
    have hq0 : 0 ≤ n / 256 ^ i := Int.ediv_nonneg hn (Int.pow_nonneg (by decide))
    have hqs : Hid (n / 256 ^ i / 256 = n / 256 ^ (i + 1)) := by show _ = _; rw [Int.ediv_ediv_of_nonneg (Int.pow_nonneg (by decide)), Int.pow_succ]
    have hbe : Hid (be n (i + 1) = n / 256 ^ i % 256 :: be n i) := be_cons i n
    by_cases hlt : i < s
    · have hc := HR.out.cell (b.length + s - 1 - i) (by rw [List.length_append, List.length_append, List.length_replicate, be_length]; omega)
      have hc1 := hc.1
      have hc2 := hc.2
      have hst := Lib.hid (HR.out.store (b.length + s - 1 - i) (n / 256 ^ i % 256))
      have hset := Lib.hid (set_step b s i n hlt (n / 256 ^ i % 256) (be n i) (be_length n i))
      clear hc
      generalize n / 256 ^ i = q at *
      go_wp2
      go_roundw
      case rel => exact ⟨i + 1, by omega, by go_num, by rw [hqs.out], (show Row.Is _ _ _ _ by rw [hbe.out, ← hset.out]; exact hst.out), HB.out.setCell (Nat.le_refl _) _⟩
      case measure => simp [intOf]; omega
    · obtain rfl : s = i := by omega
      go_wp2
      go_ret
      exact ⟨_, rfl, by have := HR.out; simpa using this, HB.out⟩
set_option maxHeartbeats 1000000 in
theorem put32 (A0 : Option Addr) (c0 : Nat) (b : List Int) (n : Int) (s : Nat) (w : World) (hr : Kd.C (Kd.int .u8) w A0 b.length b) (hc : b.length ≤ c0) (hn : 0 ≤ n) (hs : 0 < s) (hs2 : s ≤ 8) (hl : b.length ≤ 100000000000000) :
    Calls Try.prog 45 #[.slice A0 b.length c0, .int .u32 n, .int .i64 (s : Int)] w fun e w' => ∃ v, e = .returned v ∧ Row.Is w' w.heap.size v (b ++ be n s) ∧ Below w.heap.size w w' := by
  have HR := Lib.hid hr
  clear hr
  have hmk : IntKind.i64.wrap ((b.length : Int) + (s : Int)) = ((b.length + s : Nat) : Int) := IntWalk.i64_in _ (by omega)
  go_enter Try.func45, Try.ntmps45
  go_wp2_with (first | (refine Row.make (.tmp 12) (.tmp 12) (b.length + s) rfl rfl rfl rfl (by omega) ?_; intro w1 h1 hg1) | (refine Row.copy (.tmp 14) (.tmp 15) w.heap.size (b.length + s) (b.length + s) (List.replicate (b.length + s) 0) A0 b.length c0 b rfl rfl rfl rfl h1 (Kd.C_below HR.out ((Below.refl w.heap.size w).grown hg1 (Nat.le_refl _) (fun k e => by cases e))) rfl (by simp) ?_; intro w2 h2 hb2))
  have hB2 : Below w.heap.size w w2 := ((Below.refl w.heap.size w).grown hg1 (Nat.le_refl _) (fun k e => by cases e)).trans hb2
  have h2' : Row.Is w2 w.heap.size (.slice (some ⟨w.heap.size, 0, none⟩) (b.length + s) (b.length + s)) (b ++ List.replicate s 0) := by
    rw [List.drop_replicate, Nat.add_sub_cancel_left] at h2
    exact h2
  have H2 := Lib.hid h2'
  have HB2 := Lib.hid hB2
  clear h1 hg1 h2 hb2 hB2 h2' HR hmk
  go_loopw [1, 18] (fun v1 v18 wr => ∃ i : Nat, i ≤ s ∧ v18 = .int .i64 (i : Int) ∧ v1 = .int .u32 (n / 256 ^ i) ∧ Hid (Row.Is wr w.heap.size (.slice (some ⟨w.heap.size, 0, none⟩) (b.length + s) (b.length + s)) (b ++ List.replicate (s - i) 0 ++ be n i)) ∧ Hid (Below w.heap.size w wr)) (fun _ v18 _ => s - (intOf v18).toNat)
  case atStart => exact ⟨0, by omega, rfl, by simp, (show Row.Is _ _ _ _ by simpa [be] using H2.out), HB2⟩
  case round =>
    obtain ⟨i, hi, rfl, rfl, HR, HB⟩ := hrel
    have hq0 : 0 ≤ n / 256 ^ i := Int.ediv_nonneg hn (Int.pow_nonneg (by decide))
    have hqs : Hid (n / 256 ^ i / 256 = n / 256 ^ (i + 1)) := by show _ = _; rw [Int.ediv_ediv_of_nonneg (Int.pow_nonneg (by decide)), Int.pow_succ]
    have hbe : Hid (be n (i + 1) = n / 256 ^ i % 256 :: be n i) := be_cons i n
    by_cases hlt : i < s
    · have hc := HR.out.cell (b.length + s - 1 - i) (by rw [List.length_append, List.length_append, List.length_replicate, be_length]; omega)
      have hc1 := hc.1
      have hc2 := hc.2
      have hst := Lib.hid (HR.out.store (b.length + s - 1 - i) (n / 256 ^ i % 256))
      have hset := Lib.hid (set_step b s i n hlt (n / 256 ^ i % 256) (be n i) (be_length n i))
      clear hc
      generalize n / 256 ^ i = q at *
      go_wp2
      go_roundw
      case rel => exact ⟨i + 1, by omega, by go_num, by rw [hqs.out], (show Row.Is _ _ _ _ by rw [hbe.out, ← hset.out]; exact hst.out), HB.out.setCell (Nat.le_refl _) _⟩
      case measure => simp [intOf]; omega
    · obtain rfl : s = i := by omega
      go_wp2
      go_ret
      exact ⟨_, rfl, by have := HR.out; simpa using this, HB.out⟩
set_option maxHeartbeats 1000000 in
theorem put64 (A0 : Option Addr) (c0 : Nat) (b : List Int) (n : Int) (s : Nat) (w : World) (hr : Kd.C (Kd.int .u8) w A0 b.length b) (hc : b.length ≤ c0) (hn : 0 ≤ n) (hs : 0 < s) (hs2 : s ≤ 8) (hl : b.length ≤ 100000000000000) :
    Calls Try.prog 46 #[.slice A0 b.length c0, .int .u64 n, .int .i64 (s : Int)] w fun e w' => ∃ v, e = .returned v ∧ Row.Is w' w.heap.size v (b ++ be n s) ∧ Below w.heap.size w w' := by
  have HR := Lib.hid hr
  clear hr
  have hmk : IntKind.i64.wrap ((b.length : Int) + (s : Int)) = ((b.length + s : Nat) : Int) := IntWalk.i64_in _ (by omega)
  go_enter Try.func46, Try.ntmps46
  go_wp2_with (first | (refine Row.make (.tmp 12) (.tmp 12) (b.length + s) rfl rfl rfl rfl (by omega) ?_; intro w1 h1 hg1) | (refine Row.copy (.tmp 14) (.tmp 15) w.heap.size (b.length + s) (b.length + s) (List.replicate (b.length + s) 0) A0 b.length c0 b rfl rfl rfl rfl h1 (Kd.C_below HR.out ((Below.refl w.heap.size w).grown hg1 (Nat.le_refl _) (fun k e => by cases e))) rfl (by simp) ?_; intro w2 h2 hb2))
  have hB2 : Below w.heap.size w w2 := ((Below.refl w.heap.size w).grown hg1 (Nat.le_refl _) (fun k e => by cases e)).trans hb2
  have h2' : Row.Is w2 w.heap.size (.slice (some ⟨w.heap.size, 0, none⟩) (b.length + s) (b.length + s)) (b ++ List.replicate s 0) := by
    rw [List.drop_replicate, Nat.add_sub_cancel_left] at h2
    exact h2
  have H2 := Lib.hid h2'
  have HB2 := Lib.hid hB2
  clear h1 hg1 h2 hb2 hB2 h2' HR hmk
  go_loopw [1, 18] (fun v1 v18 wr => ∃ i : Nat, i ≤ s ∧ v18 = .int .i64 (i : Int) ∧ v1 = .int .u64 (n / 256 ^ i) ∧ Hid (Row.Is wr w.heap.size (.slice (some ⟨w.heap.size, 0, none⟩) (b.length + s) (b.length + s)) (b ++ List.replicate (s - i) 0 ++ be n i)) ∧ Hid (Below w.heap.size w wr)) (fun _ v18 _ => s - (intOf v18).toNat)
  case atStart => exact ⟨0, by omega, rfl, by simp, (show Row.Is _ _ _ _ by simpa [be] using H2.out), HB2⟩
  case round =>
    obtain ⟨i, hi, rfl, rfl, HR, HB⟩ := hrel
    have hq0 : 0 ≤ n / 256 ^ i := Int.ediv_nonneg hn (Int.pow_nonneg (by decide))
    have hqs : Hid (n / 256 ^ i / 256 = n / 256 ^ (i + 1)) := by show _ = _; rw [Int.ediv_ediv_of_nonneg (Int.pow_nonneg (by decide)), Int.pow_succ]
    have hbe : Hid (be n (i + 1) = n / 256 ^ i % 256 :: be n i) := be_cons i n
    by_cases hlt : i < s
    · have hc := HR.out.cell (b.length + s - 1 - i) (by rw [List.length_append, List.length_append, List.length_replicate, be_length]; omega)
      have hc1 := hc.1
      have hc2 := hc.2
      have hst := Lib.hid (HR.out.store (b.length + s - 1 - i) (n / 256 ^ i % 256))
      have hset := Lib.hid (set_step b s i n hlt (n / 256 ^ i % 256) (be n i) (be_length n i))
      clear hc
      generalize n / 256 ^ i = q at *
      go_wp2
      go_roundw
      case rel => exact ⟨i + 1, by omega, by go_num, by rw [hqs.out], (show Row.Is _ _ _ _ by rw [hbe.out, ← hset.out]; exact hst.out), HB.out.setCell (Nat.le_refl _) _⟩
      case measure => simp [intOf]; omega
    · obtain rfl : s = i := by omega
      go_wp2
      go_ret
      exact ⟨_, rfl, by have := HR.out; simpa using this, HB.out⟩
end Go.Proofs.Ytengdchgfhcdhaa.Put
