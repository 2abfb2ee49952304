/- What is said here: the texts that the reference's reader answers. -/
import Derived.Test.YtengdchgfhcdhaaRReader2
namespace Go.Proofs.Ytengdchgfhcdhaa.RReader
set_option linter.unusedVariables false
set_option linter.unusedSimpArgs false
open Go.RowKit Go.Proofs.YtengdchgfhcdhaaW.PrintWords Go.Proofs.YtengdchgfhcdhaaW.PrintLast Go.Proofs.YtengdchgfhcdhaaW.PrintMore
open Reader (Only)

set_option maxRecDepth 100000 in
set_option maxHeartbeats 2000000 in
theorem Text_calls (g base : Nat) (A : Option Addr) (c : Nat) (s : Reader.St) (w : World) (h : Is w base g A c s) (hl : s.bs.length ≤ 100000000000000) (hr : ∀ x ∈ s.bs, 0 ≤ x ∧ x < 256) :
    Calls Try.prog 49 #[.pointer (some ⟨g, 0, none⟩)] w fun e w' => e = .returned (.string (strOfNums s.textL)) ∧ Is w' base g A c s.textS ∧ Only g w w' := by
  have HF := Lib.hid (fits_calls g base A c s 2 w h)
  cases hB : fitsB s 2 with
  | false =>
    obtain ⟨e1, e2⟩ := text_short s hB
    rw [hB, ← e2] at HF
    rw [e1]
    clear h e1 e2 hB
    go_enter Try.func49, Try.ntmps49
    go_wp2_with fail
    refine HF.out.mono ?_
    rintro e w1 ⟨rfl, hI, hO⟩
    have HI := Lib.hid hI
    have HO := Lib.hid hO
    clear hI hO
    go_wp2
    go_ret
    exact ⟨rfl, HI.out, HO.out⟩
  | true =>
    obtain ⟨he, hs, hn, m0, m1, e2⟩ := textN_eq s hB hr
    have hf2 : fitsS s 2 = s := by unfold fitsS; rw [if_neg (fun h => h he), if_neg (by omega)]
    rw [hB, hf2] at HF
    have h0 : s.at_ < s.bs.length := by omega
    have h1 : s.at_ + 1 < s.bs.length := by omega
    obtain ⟨gb, hA, _⟩ := h.ex.2.1.head (by omega)
    subst hA
    have hd0 : 0 ≤ s.bs.getD s.at_ 0 ∧ s.bs.getD s.at_ 0 < 256 := by
      rw [List.getD_eq_getElem?_getD, List.getElem?_eq_getElem h0]; exact hr _ (List.getElem_mem h0)
    have hd1 : 0 ≤ s.bs.getD (s.at_ + 1) 0 ∧ s.bs.getD (s.at_ + 1) 0 < 256 := by
      rw [List.getD_eq_getElem?_getD, List.getElem?_eq_getElem h1]; exact hr _ (List.getElem_mem h1)
    have hM : textM s = 256 * s.bs.getD s.at_ 0 + s.bs.getD (s.at_ + 1) 0 := rfl
    have HS := Lib.hid hr
    have HB := Lib.hid hB
    go_enter Try.func49, Try.ntmps49
    go_wp2_with fail
    refine HF.out.mono ?_
    rintro e w1 ⟨rfl, hI, hO⟩
    have x0 : w1.cell? ⟨g, 0, none⟩ = some (.slice (some ⟨gb, 0, none⟩) s.bs.length c) := hI.ex.1.cell 0
    have x1 : w1.cell? ⟨g, 1, none⟩ = some (.int .i64 (s.at_ : Int)) := hI.ex.1.cell 1
    have b0 := (hI.ex.2.1.cell s.at_ h0).1
    have b1 := (hI.ex.2.1.cell (s.at_ + 1) h1).1
    have hlim := hI.ex.2.1.max
    have HI := Lib.hid hI
    have HO := Lib.hid hO
    clear hI hO h hr HF hf2 e2 hB
    generalize s.bs.getD s.at_ 0 = v0 at *
    generalize s.bs.getD (s.at_ + 1) 0 = v1 at *
    have hw0 : IntKind.i64.wrap v0 = v0 := IntWalk.i64_in _ (by omega)
    have hw1 : IntKind.i64.wrap v1 = v1 := IntWalk.i64_in _ (by omega)
    have hw2 : IntKind.i64.wrap (256 * v0) = 256 * v0 := IntWalk.i64_in _ (by omega)
    have hw3 : IntKind.i64.wrap (256 * v0 + v1) = 256 * v0 + v1 := IntWalk.i64_in _ (by omega)
    have hw4 : IntKind.i64.wrap ((s.at_ : Int) + 1) = (s.at_ : Int) + 1 := IntWalk.i64_in _ (by omega)
    have hw5 : IntKind.i64.wrap (2 + (256 * v0 + v1)) = 2 + (256 * v0 + v1) := IntWalk.i64_in _ (by omega)
    go_wp2_with fail
    go_quiet (fail)
    have HI2 := Lib.hid (HI.out.drewN nq)
    have HO2 := Lib.hid (HO.out.drewN nq)
    clear HI HO
    generalize w1.drewN nq = w2 at *
    clear x0 x1 b0 b1
    have HF2 := Lib.hid (fits_calls g base _ c s (2 + textM s) w2 HI2.out)
    cases hC : fitsB s (2 + textM s) with
    | false =>
      obtain ⟨e1, e2⟩ := text_far s HB.out HS.out hC
      rw [hC, ← e2, hM] at HF2
      have E1 := Lib.hid e1
      clear e1 e2 hC
      go_wp2_with fail
      refine HF2.out.mono ?_
      rintro e w3 ⟨rfl, hI, hO⟩
      have HI3 := Lib.hid hI
      have HO3 := Lib.hid (HO2.out.trans hO)
      clear hI hO
      go_wp2
      go_ret
      exact ⟨by rw [E1.out]; rfl, HI3.out, HO3.out⟩
    | true =>
      obtain ⟨e1, e2, _, e4, e5⟩ := text_fits s HB.out HS.out hC
      rw [hC, e4, hM] at HF2
      have hlen2 := e5
      have hlen : (s.takeL (2 + textM s)).length ≤ 100000000000000 := Nat.le_trans (Reader.takeL_len s _) hl
      rw [hM] at e1 e2 e5 hlen hlen2
      have E1 := Lib.hid e1
      have E2 := Lib.hid e2
      clear e1 e2 hC e4 e5
      go_wp2_with fail
      refine HF2.out.mono ?_
      rintro e w3 ⟨rfl, hI, hO⟩
      have HO3 := Lib.hid (HO2.out.trans hO)
      have HRW := Lib.hid (Raw_calls g base _ c s (2 + (256 * v0 + v1)) w3 hI (by omega) (by omega) hl)
      clear hI hO HI2 HO2 HF2
      generalize s.takeL (2 + (256 * v0 + v1)) = l at *
      generalize s.takeS (2 + (256 * v0 + v1)) = s2 at *
      go_wp2_with fail
      refine HRW.out.mono ?_
      rintro e w4 ⟨v4, rfl, hR4, hI4, hO4⟩
      obtain ⟨A4, c4, rfl, hc4, hC4⟩ := hR4.reads
      have HI4 := Lib.hid hI4
      have HO4 := Lib.hid (HO3.out.trans hO4)
      have hmx := hR4.max
      obtain ⟨i0, hi0, _, hsz0, _⟩ := info_parts Row.infoB
      have hcut := cut_from (P := Try.prog) 22 5 .i64 Try.underlying22 hi0 1 hsz0 A4 l.length c4 2 (by omega) (by omega)
      rw [show (2 : Int).toNat = 2 from rfl] at hcut
      have hC2 := Kd.C_drop (k := Kd.int .u8) (m := 2) hC4 hlen2 hc4
      have hk : (Kd.int .u8).sz = 1 := rfl
      rw [hk] at hC2
      generalize (if c4 = 2 then A4 else A4.map (·.add (2 * 1))) = A5 at hcut hC2
      have hcv := Kd.C_string (P := Try.prog) (A := A5) (c := c4 - 2) Try.underlying22 Try.underlying5 Try.underlying9 hC2
      rw [List.length_drop] at hcv
      clear hR4 hI4 hO4 hC4 hC2 HRW HO3 hi0 hsz0 hk
      go_wp2
      go_ret
      exact ⟨by rw [E1.out]; rfl, by rw [E2.out]; exact HI4.out, HO4.out⟩
end Go.Proofs.Ytengdchgfhcdhaa.RReader
