/- What is said here: the bytes and texts that octet's reader answers, and how a reader is made. -/
import Derived.Test.YtengdchgfhcdhaaReader2
namespace Go.Proofs.Ytengdchgfhcdhaa.Reader
set_option linter.unusedVariables false
set_option linter.unusedSimpArgs false
open Go.RowKit Go.Proofs.YtengdchgfhcdhaaW.PrintWords Go.Proofs.YtengdchgfhcdhaaW.PrintLast Go.Proofs.YtengdchgfhcdhaaW.PrintMore

theorem takeL_len (s : St) (n : Int) : (s.takeL n).length ≤ s.bs.length := by
  unfold St.takeL
  split
  · simp
  · split
    · simp
    · split
      · simp
      · rw [List.length_take, List.length_drop]; omega

set_option maxHeartbeats 1000000 in
theorem Raw_nil (n : Int) (w : World) : Calls Try.prog 29 #[.pointer none, .int .i64 n] w fun e w' => ∃ v, e = .returned v ∧ Row.Is w' w.heap.size v [] ∧ Below w.heap.size w w' := by
  go_enter Try.func29, Try.ntmps29
  go_wp2_with (first | (go_at_call 53; refine (take_nil _ _).mono ?_; rintro e w' ⟨rfl, rfl⟩) | (refine Row.appendRow w.heap.size _ _ (.slice none 0 0) [] none 0 0 [] rfl rfl rfl rfl rfl (Row.Is.nil _ _) ⟨rfl, by simp, fun hp => absurd hp (by simp)⟩ (Nat.le_refl _) (by simp) ?_; intro v1 w1 h1 h2 h3 h4))
  go_ret
  exact ⟨_, rfl, h1, h2⟩

set_option maxHeartbeats 1000000 in
theorem Raw_calls (g base : Nat) (A : Option Addr) (c : Nat) (s : St) (n : Int) (w : World) (h : Is w base g A c s) (hn : -9223372036854775808 ≤ n) (hn2 : n ≤ 9223372036854775807) (hl : s.bs.length ≤ 100000000000000) :
    Calls Try.prog 29 #[.pointer (some ⟨g, 0, none⟩), .int .i64 n] w fun e w' => ∃ v, e = .returned v ∧ Row.Is w' w.heap.size v (s.takeL n) ∧ Is w' base g A c (s.takeS n) ∧ Only g w w' := by
  have HT := Lib.hid (take_calls g base A c s n w h hn hn2)
  have hlen : (s.takeL n).length ≤ 100000000000000 := Nat.le_trans (takeL_len s n) hl
  clear h hn hn2 hl
  generalize s.takeL n = l at *
  generalize s.takeS n = s2 at *
  go_enter Try.func29, Try.ntmps29
  go_wp2_with fail
  refine HT.out.mono ?_
  rintro e w1 ⟨A2, c2, rfl, hlc, hC, hI, hO⟩
  have HC := Lib.hid hC
  have HI := Lib.hid hI
  have HO := Lib.hid hO
  clear HT hC hI hO
  go_wp2_with (refine Row.appendRow w1.heap.size _ _ (.slice none 0 0) [] A2 l.length c2 l rfl rfl rfl rfl rfl (Row.Is.nil _ _) HC.out (Nat.le_refl _) (by simpa using hlen) ?_; intro v1 w2 h1 h2 h3 h4)
  have H1 := Lib.hid h1
  have H2 := Lib.hid h2
  clear h1 h2 h3 h4
  go_ret
  exact ⟨_, rfl, H1.out.lower HO.out.size, HI.out.below H2.out, HO.out.trans (Only.of_below H2.out)⟩

/-- What Text answers, and what is left. -/
def St.textN (s : St) : Int := num (s.takeL 2) % 65536
def St.textL (s : St) : List Int := (s.takeS 2).takeL s.textN
def St.textS (s : St) : St := if ((s.takeS 2).takeS s.textN).e ≠ 0 then { (s.takeS 2).takeS s.textN with at_ := s.at_ } else (s.takeS 2).takeS s.textN
theorem takeS_bs (s : St) (n : Int) : (s.takeS n).bs = s.bs := by
  unfold St.takeS
  split
  · rfl
  · split
    · rfl
    · split <;> rfl

theorem Text_nil (w : World) : Calls Try.prog 30 #[.pointer none] w fun e w' => e = .returned (.string ⟨#[]⟩) ∧ w = w' := by
  go_enter Try.func30, Try.ntmps30
  go_wp2
  go_ret
  exact ⟨rfl, rfl⟩

set_option maxHeartbeats 1000000 in
theorem Text_calls (g base : Nat) (A : Option Addr) (c : Nat) (s : St) (w : World) (h : Is w base g A c s) :
    Calls Try.prog 30 #[.pointer (some ⟨g, 0, none⟩)] w fun e w' => e = .returned (.string (strOfNums s.textL)) ∧ Is w' base g A c s.textS ∧ Only g w w' := by
  have HT := Lib.hid (U16_calls g base A c s w h)
  have x1 : w.cell? ⟨g, 1, none⟩ = some (.int .i64 (s.at_ : Int)) := h.ex.1.cell 1
  have hn0 : 0 ≤ s.textN := Int.emod_nonneg _ (by decide)
  have hn1 : s.textN < 65536 := Int.emod_lt_of_pos _ (by decide)
  have hat := h.at_
  have hbs : (s.takeS 2).bs = s.bs := takeS_bs s 2
  have hbs2 : ((s.takeS 2).takeS s.textN).bs = s.bs := (takeS_bs _ _).trans hbs
  have eL : Hid (s.textL = (s.takeS 2).takeL s.textN) := rfl
  have eS : Hid (s.textS = if ((s.takeS 2).takeS s.textN).e ≠ 0 then { (s.takeS 2).takeS s.textN with at_ := s.at_ } else (s.takeS 2).takeS s.textN) := rfl
  have eN : num (s.takeL 2) % 65536 = s.textN := rfl
  rw [eN] at HT
  clear eN h
  generalize s.textN = n at *
  generalize s.takeS 2 = s2 at *
  generalize s.textL = tl at *
  generalize s.textS = ts at *
  go_enter Try.func30, Try.ntmps30
  go_wp2_with fail
  refine HT.out.mono ?_
  rintro e w1 ⟨rfl, hI, hO⟩
  have HT2 := Lib.hid (take_calls g base A c s2 n w1 hI (by omega) (by omega))
  have HO := Lib.hid hO
  clear HT hI hO
  go_wp2_with fail
  refine HT2.out.mono ?_
  rintro e w2 ⟨A2, c2, rfl, hlc, hC, hI, hO⟩
  have HI := Lib.hid hI
  have HO2 := Lib.hid (HO.out.trans hO)
  have hcv := Kd.C_string (P := Try.prog) (A := A2) (c := c2) Try.underlying22 Try.underlying5 Try.underlying9 hC
  have y1 := hI.ex.1.free 1
  have z1 : w2.cell? ⟨g, 1, none⟩ = some (.int .i64 ((s2.takeS n).at_ : Int)) := hI.ex.1.cell 1
  have x2 : w2.cell? ⟨g, 2, none⟩ = some (.int .i64 (s2.takeS n).e) := hI.ex.1.cell 2
  have he0 := hI.e0
  have he1 := hI.e1
  clear HT2 hC hI hO HO
  generalize s2.takeS n = s3 at *
  rw [← eL.out] at *
  by_cases h_e : s3.e = 0
  · have hez2 : (s3.e != 0) = false := by rw [bne, beq_iff_eq.mpr h_e]; rfl
    have ets : ts = s3 := by rw [eS.out, if_neg (fun h => h h_e)]
    subst ets
    clear eS eL h_e
    go_wp2
    go_ret
    exact ⟨rfl, HI.out, HO2.out⟩
  · have hez2 : (s3.e != 0) = true := bne_iff_ne.mpr h_e
    have ets : ts = { s3 with at_ := s.at_ } := by rw [eS.out, if_pos h_e]
    subst ets
    clear eS eL h_e
    go_wp2
    go_ret
    refine ⟨rfl, ⟨⟨HI.out.ex.1.set 1 _, HI.out.ex.2.1.other (by simpa using HI.out.ex.2.2) _, HI.out.ex.2.2⟩, HI.out.base, ?_, HI.out.e0, HI.out.e1⟩, HO2.out.set _ _⟩
    show s.at_ ≤ s3.bs.length
    rw [hbs2]
    exact hat

set_option maxHeartbeats 1000000 in
theorem Read_calls (A0 : Option Addr) (c0 : Nat) (b : List Int) (w : World) (hr : Kd.C (Kd.int .u8) w A0 b.length b) (hl : b.length ≤ 100000000000000) :
    Calls Try.prog 21 #[.slice A0 b.length c0] w fun e w' => ∃ g A c, e = .returned (.pointer (some ⟨g, 0, none⟩)) ∧ Is w' w.heap.size g A c ⟨b, 0, 0⟩ ∧ Below w.heap.size w w' := by
  have HR := Lib.hid hr
  clear hr
  go_enter Try.func21, Try.ntmps21
  go_wp2_with (refine Row.appendRow w.heap.size _ _ (.slice none 0 0) [] A0 b.length c0 b rfl rfl rfl rfl rfl (Row.Is.nil _ _) HR.out (Nat.le_refl _) (by simpa using hl) ?_; intro v1 w2 h1 h2 h3 h4; obtain ⟨A, c, rfl, hlc, _⟩ := h1.reads)
  have H1 := Lib.hid h1
  have H2 := Lib.hid h2
  clear h1 h2 h3 h4
  go_ret
  refine ⟨_, A, c, rfl, ⟨⟨Blk.Is.new _ _ _, H1.out.alloc _, ?_⟩, H2.out.size, Nat.zero_le _, by simp, by simp⟩, H2.out.alloc H2.out.size _⟩
  intro h
  exact absurd (H1.out.lt _ h).2 (by omega)
end Go.Proofs.Ytengdchgfhcdhaa.Reader
