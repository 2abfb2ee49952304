/- What is said here: octet.Put16, Put32, Put64 put a number's bytes, the highest first, behind bytes, in new memory. -/
import Derived.Test.YtengdchgfhcdhaaPut
namespace Go.Proofs.Ytengdchgfhcdhaa.Put
set_option linter.unusedVariables false
set_option linter.unusedSimpArgs false
open Go.RowKit Go.Proofs.YtengdchgfhcdhaaW.PrintWords Go.Proofs.YtengdchgfhcdhaaW.PrintLast Go.Proofs.YtengdchgfhcdhaaW.PrintMore

def P16.f (l0 : List Int) (a1 : Int) : Option (List Int) := if l0.length ≤ 100000000000000 ∧ 0 ≤ a1 then some (l0 ++ be a1 2) else none
set_option maxHeartbeats 1000000 in
theorem P16.calls (A0 : Option Addr) (c0 : Nat) (l0 : List Int) (a1 : Int) (r : List Int) (w : World) (hr0 : Kd.C (Kd.int .u8) w A0 l0.length l0) (hc0 : l0.length ≤ c0) (h : P16.f l0 a1 = some r) :
    Calls Try.prog 12 #[.slice A0 l0.length c0, .int .u16 a1] w fun e w' => ∃ v0_ : Value, e = .returned (v0_) ∧ Kd.R (Kd.int .u8) 5 w' w.heap.size (fun _ => True) v0_ r ∧ Below w.heap.size w w' := by
  unfold P16.f at h
  split at h
  · rename_i hc
    injection h with h
    have HT := Lib.hid (put16 A0 c0 l0 a1 2 w hr0 hc0 hc.2 (by decide) (by decide) hc.1)
    have HH := Lib.hid h
    clear hr0 h hc
    go_enter Try.func12, Try.ntmps12
    go_wp2_with fail
    refine HT.out.mono ?_
    rintro e w1 ⟨v, rfl, hI, hB⟩
    have HI := Lib.hid hI
    have HB := Lib.hid hB
    clear hI hB
    go_wp2
    go_ret
    exact ⟨_, rfl, by rw [← HH.out]; exact HI.out.R _ (fun _ _ => trivial), HB.out⟩
  · cases h

def P32.f (l0 : List Int) (a1 : Int) : Option (List Int) := if l0.length ≤ 100000000000000 ∧ 0 ≤ a1 then some (l0 ++ be a1 4) else none
set_option maxHeartbeats 1000000 in
theorem P32.calls (A0 : Option Addr) (c0 : Nat) (l0 : List Int) (a1 : Int) (r : List Int) (w : World) (hr0 : Kd.C (Kd.int .u8) w A0 l0.length l0) (hc0 : l0.length ≤ c0) (h : P32.f l0 a1 = some r) :
    Calls Try.prog 13 #[.slice A0 l0.length c0, .int .u32 a1] w fun e w' => ∃ v0_ : Value, e = .returned (v0_) ∧ Kd.R (Kd.int .u8) 5 w' w.heap.size (fun _ => True) v0_ r ∧ Below w.heap.size w w' := by
  unfold P32.f at h
  split at h
  · rename_i hc
    injection h with h
    have HT := Lib.hid (put32 A0 c0 l0 a1 4 w hr0 hc0 hc.2 (by decide) (by decide) hc.1)
    have HH := Lib.hid h
    clear hr0 h hc
    go_enter Try.func13, Try.ntmps13
    go_wp2_with fail
    refine HT.out.mono ?_
    rintro e w1 ⟨v, rfl, hI, hB⟩
    have HI := Lib.hid hI
    have HB := Lib.hid hB
    clear hI hB
    go_wp2
    go_ret
    exact ⟨_, rfl, by rw [← HH.out]; exact HI.out.R _ (fun _ _ => trivial), HB.out⟩
  · cases h

def P64.f (l0 : List Int) (a1 : Int) : Option (List Int) := if l0.length ≤ 100000000000000 ∧ 0 ≤ a1 then some (l0 ++ be a1 8) else none
set_option maxHeartbeats 1000000 in
theorem P64.calls (A0 : Option Addr) (c0 : Nat) (l0 : List Int) (a1 : Int) (r : List Int) (w : World) (hr0 : Kd.C (Kd.int .u8) w A0 l0.length l0) (hc0 : l0.length ≤ c0) (h : P64.f l0 a1 = some r) :
    Calls Try.prog 14 #[.slice A0 l0.length c0, .int .u64 a1] w fun e w' => ∃ v0_ : Value, e = .returned (v0_) ∧ Kd.R (Kd.int .u8) 5 w' w.heap.size (fun _ => True) v0_ r ∧ Below w.heap.size w w' := by
  unfold P64.f at h
  split at h
  · rename_i hc
    injection h with h
    have HT := Lib.hid (put64 A0 c0 l0 a1 8 w hr0 hc0 hc.2 (by decide) (by decide) hc.1)
    have HH := Lib.hid h
    clear hr0 h hc
    go_enter Try.func14, Try.ntmps14
    go_wp2_with fail
    refine HT.out.mono ?_
    rintro e w1 ⟨v, rfl, hI, hB⟩
    have HI := Lib.hid hI
    have HB := Lib.hid hB
    clear hI hB
    go_wp2
    go_ret
    exact ⟨_, rfl, by rw [← HH.out]; exact HI.out.R _ (fun _ _ => trivial), HB.out⟩
  · cases h
end Go.Proofs.Ytengdchgfhcdhaa.Put
