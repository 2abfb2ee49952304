/- It is proved here that the law OctetOne, called with any digits, bytes and numbers, answers true and leaves what was there alone. No condition. -/
import Derived.Test.YtengdchgfhcdhaaWorks
import Derived.Test.YtengdchgfhcdhaaPureOne
import Derived.BigQuiet
import Derived.Deep.QuietTactic
import Derived.WalkSpells
namespace Go.Proofs.Ytengdchgfhcdhaa.HOctetOne
set_option linter.unusedVariables false
set_option linter.unusedSimpArgs false
open Go.RowKit Go.Proofs.YtengdchgfhcdhaaW.PrintWords Go.Proofs.YtengdchgfhcdhaaW.PrintLast Go.Proofs.YtengdchgfhcdhaaW.PrintMore

theorem boxed {w w' : World} {o : Obj} {n : Nat} (h : Below ((w.alloc o).drewN n).heap.size ((w.alloc o).drewN n) w') : Below w.heap.size w w' := by
  have h1 : Below w.heap.size w ((w.alloc o).drewN n) := pw_below_drewN ((Below.refl w.heap.size w).alloc (Nat.le_refl _) o) n
  exact h1.trans (h.mono h1.size)
theorem copy_f (l : List Int) (h : l.length ≤ 100000000000000) : PA.ciboriumref00_CopyBytes.f l = some l := by
  unfold PA.ciboriumref00_CopyBytes.f
  rw [if_pos (by simp; omega)]
  rfl
set_option maxHeartbeats 1000000 in
theorem law_far (a0 : ByteArray) (A1 : Option Addr) (c1 n1 : Nat) (m n : Int) (w : World) (h : 65536 < a0.size ∨ 65536 < n1) (hm : n1 ≤ 9223372036854775807) (hm2 : a0.size ≤ 9223372036854775807) :
    Calls Try.prog 9 #[.agg #[.string a0, .slice A1 n1 c1, .int .u64 m, .int .u64 n]] w fun e w' => e = .returned (.bool true) ∧ Below w.heap.size w w' := by
  by_cases h1 : 65536 < a0.size
  · go_enter Try.func9, Try.ntmps9
    go_wp2
    go_quiet (fail)
    go_wp2_with fail
    refine (Works.works _).mono ?_
    rintro e w1 ⟨rfl, hb⟩
    have hb1 : Below w.heap.size w w1 := boxed hb
    go_wp2
    go_ret
    exact ⟨rfl, hb1⟩
  · have h2 : 65536 < n1 := h.resolve_left h1
    go_enter Try.func9, Try.ntmps9
    go_wp2
    go_quiet (fail)
    go_wp2_with fail
    refine (Works.works _).mono ?_
    rintro e w1 ⟨rfl, hb⟩
    have hb1 : Below w.heap.size w w1 := boxed hb
    go_wp2
    go_ret
    exact ⟨rfl, hb1⟩

set_option maxHeartbeats 4000000 in
theorem law (a0 : ByteArray) (A1 : Option Addr) (c1 : Nat) (l1 : List Int) (m n : Int) (w : World) (hr1 : Kd.C (Kd.int .u8) w A1 l1.length l1) (hc1 : l1.length ≤ c1) (hw1 : ∀ x ∈ l1, 0 ≤ x ∧ x < 256) (hm1 : l1.length ≤ 9223372036854775807) (hm2 : a0.size ≤ 9223372036854775807)
    (hm : 0 ≤ m) (hmm : m < 18446744073709551616) (hn : 0 ≤ n) (hnn : n < 18446744073709551616) :
    Calls Try.prog 9 #[.agg #[.string a0, .slice A1 l1.length c1, .int .u64 m, .int .u64 n]] w fun e w' => e = .returned (.bool true) ∧ Below w.heap.size w w' := by
  by_cases hfar : 65536 < a0.size ∨ 65536 < l1.length
  · exact law_far a0 A1 c1 l1.length m n w hfar hm1 hm2
  · have hs : a0.size ≤ 65536 := by omega
    have hl : l1.length ≤ 65536 := by omega
    obtain ⟨r1, r2, K1, hf1, hr1l, hr1r, hU⟩ := PureOne.unhex_one a0 (by omega)
    obtain ⟨q1, q2, K2, hf2, hN⟩ := PureOne.number_one a0 (by omega)
    have F1 := Lib.hid (hf1 K1 (Nat.le_refl _))
    have F2 := Lib.hid (hf2 K2 (Nat.le_refl _))
    have HN := Lib.hid hN
    have HU := Lib.hid hU
    have HR1 := Lib.hid hr1r
    have HW := Lib.hid hw1
    have HC0 := Lib.hid hr1
    have M := Lib.hid (And.intro (And.intro hm hmm) (And.intro hn hnn))
    clear hfar hm1 hm2 hf1 hf2 hN hU hr1r hw1 hr1 hm hmm hn hnn
    go_enter Try.func9, Try.ntmps9
    go_wp2
    go_quiet (fail)
    go_wp2_with fail
    refine (PA.octet_Unhex.calls K1 a0 r1 r2 _ F1.out).mono ?_
    have h1 : (r2 = 0 ∧ strOfNums (Hex.hexL r1) = a0) ∨ (r2 ≠ 0 ∧ r1 = []) := HU.out
    clear HU
    rcases h1 with ⟨rfl, he⟩ | ⟨hne, rfl⟩
    rintro e w1 ⟨v4, rfl, hR4, hb⟩
    obtain ⟨A4, c4, rfl, hc4, hC4⟩ := (Row.of_R hR4).reads
    have HB1 : Hid (Below w.heap.size w w1) := boxed hb
    have H4 := Lib.hid hC4
    have HC1 := Lib.hid (Kd.C_below HC0.out HB1.out)
    clear hR4 hC4 hb HC0 F1
    have HE := Lib.hid he
    clear he
    go_wp2_with fail
    refine (Hex.hex A4 c4 r1 _ H4.out (by omega) HR1.out).mono ?_
    rintro e w2 ⟨rfl, hb⟩
    rw [HE.out]
    have HB2 : Hid (Below w.heap.size w w2) := HB1.out.trans (hb.mono HB1.out.size)
    have HC2 := Lib.hid (Kd.C_below HC1.out hb)
    clear hb HB1 H4 HC1 HE
    clear HR1
    rotate_left
    rintro e w2 ⟨v4, rfl, hR4, hb⟩
    obtain ⟨A4, c4, rfl, hc4, hC4⟩ := (Row.of_R hR4).reads
    have HB2 : Hid (Below w.heap.size w w2) := boxed hb
    have HC2 := Lib.hid (Kd.C_below HC0.out HB2.out)
    clear hR4 hC4 hb HC0 F1 HR1
    have he1 : (r2 == 0) = false := beq_eq_false_iff_ne.mpr hne
    have he2 : (r2 != 0) = true := bne_iff_ne.mpr hne
    rotate_left
    all_goals
      go_wp2_with fail
      refine (PA.octet_Number.calls K2 a0 q1 q2 _ F2.out).mono ?_
      have h2 : (q2 = 0 ∧ 0 ≤ q1 ∧ q1 < 18446744073709551616 ∧ ∀ j, PureOne.Long q1 j → strOfNums (Digits.dl q1 j) = a0) ∨ (q2 ≠ 0 ∧ q1 = 0) := HN.out
      clear HN F2
      rcases h2 with ⟨rfl, hq0, hq1, hq⟩ | ⟨hne2, rfl⟩
      rotate_left
      have hz1 : (q2 == 0) = false := beq_eq_false_iff_ne.mpr hne2
      have hz2 : (q2 != 0) = true := bne_iff_ne.mpr hne2
      rintro e w3 ⟨rfl, n3, rfl⟩
      have HC3 := Lib.hid (Kd.C_drewN HC2.out n3)
      have HB3 := Lib.hid (pw_below_drewN HB2.out n3)
      generalize w2.drewN n3 = w3 at *
      clear HC2 HB2
      rotate_left
      rintro e w4 ⟨rfl, n3, rfl⟩
      have HC4 := Lib.hid (Kd.C_drewN HC2.out n3)
      have HB4 := Lib.hid (pw_below_drewN HB2.out n3)
      generalize w2.drewN n3 = w4 at *
      have HQ := Lib.hid hq
      clear HC2 HB2 hq
      go_wp2_with fail
      refine (Digits.digits q1 _ hq0 hq1).mono ?_
      rintro e w3 ⟨⟨j, hj, hz, hnj, rfl⟩, hb⟩
      rw [HQ.out j ⟨hj, hz, hnj⟩]
      have HB3 : Hid (Below w.heap.size w w3) := HB4.out.trans (hb.mono HB4.out.size)
      have HC3 := Lib.hid (Kd.C_below HC4.out hb)
      clear hb HB4 HC4 HQ hj hz hnj
    all_goals
      go_wp2_with fail
      refine (PA.ciboriumref00_CopyBytes.calls A1 c1 l1 l1 _ HC3.out hc1 (copy_f l1 (by omega))).mono ?_
      rintro e w5 ⟨v5, rfl, hR5, hb⟩
      obtain ⟨A5, c5, rfl, hc5, hC5⟩ := (Row.of_R hR5).reads
      have H5 := Lib.hid hC5
      have HB5 : Hid (Below w.heap.size w w5) := HB3.out.trans (hb.mono HB3.out.size)
      have HC5 := Lib.hid (Kd.C_below HC3.out hb)
      clear hR5 hC5 hb HC3 HB3
      go_wp2_with fail
      refine (Hex.hex A5 c5 l1 _ H5.out (by omega) HW.out).mono ?_
      rintro e w6 ⟨rfl, hb⟩
      have HB6 : Hid (Below w.heap.size w w6) := HB5.out.trans (hb.mono HB5.out.size)
      have HC6 := Lib.hid (Kd.C_below HC5.out hb)
      have hsz : (strOfNums (Hex.hexL l1)).size = 2 * l1.length := by rw [PureOne.str_size, Hex.hexL_length]
      have F3 := Lib.hid (PureOne.unhex_back l1 HW.out (by omega) _ (Nat.le_refl _))
      generalize strOfNums (Hex.hexL l1) = hx at *
      clear hb HB5 H5 HC5
      go_wp2_with fail
      refine (PA.octet_Unhex.calls _ hx l1 0 _ F3.out).mono ?_
      rintro e w7 ⟨v7, rfl, hR7, hb⟩
      obtain ⟨A7, c7, rfl, hc7, hC7⟩ := (Row.of_R hR7).reads
      have H7 := Lib.hid hC7
      have HB7 : Hid (Below w.heap.size w w7) := HB6.out.trans (hb.mono HB6.out.size)
      have HC7 := Lib.hid (Kd.C_below HC6.out hb)
      clear hR7 hC7 hb HC6 HB6 F3
      go_wp2_with fail
      refine (PA.ciboriumref00_EqBytes.calls A7 c7 l1 A1 c1 l1 true _ H7.out hc7 HC7.out hc1 (by unfold PA.ciboriumref00_EqBytes.f; simp)).mono ?_
      rintro e w8 ⟨rfl, n8, rfl⟩
      have HB8 := Lib.hid (pw_below_drewN HB7.out n8)
      generalize w7.drewN n8 = w8 at *
      clear HB7 HC7 H7
      go_wp2_with fail
      refine (Digits.digits n _ M.out.2.1 M.out.2.2).mono ?_
      rintro e w9 ⟨⟨j, hj, hz, hnj, rfl⟩, hb⟩
      have HLj : Hid (PureOne.Long n j) := ⟨hj, hz, hnj⟩
      have HB9 : Hid (Below w.heap.size w w9) := HB8.out.trans (hb.mono HB8.out.size)
      clear hj hz hnj hb HB8
      have hj20 := PureOne.long20 n j HLj.out M.out.2.1 M.out.2.2
      have F4 := Lib.hid (PureOne.number_back n M.out.2.1 M.out.2.2 j HLj.out (by omega) _ (Nat.le_refl _))
      have hs4 : (strOfNums (Digits.dl n j)).size = j := by rw [PureOne.str_size, Digits.dl_length]
      generalize strOfNums (Digits.dl n j) = s4 at *
      go_wp2_with fail
      refine (PA.octet_Number.calls _ s4 n 0 _ F4.out).mono ?_
      rintro e w10 ⟨rfl, n10, rfl⟩
      have HB10 := Lib.hid (pw_below_drewN HB9.out n10)
      generalize w9.drewN n10 = w10 at *
      clear HB9 F4
      go_wp2_with fail
      refine (Digits.digits m _ M.out.1.1 M.out.1.2).mono ?_
      rintro e w11 ⟨⟨i, hi, hz, hni, rfl⟩, hb⟩
      have HLi : Hid (PureOne.Long m i) := ⟨hi, hz, hni⟩
      have HB11 : Hid (Below w.heap.size w w11) := HB10.out.trans (hb.mono HB10.out.size)
      clear hi hz hni hb HB10
      have hi20 := PureOne.long20 m i HLi.out M.out.1.1 M.out.1.2
      have F5 := Lib.hid (PureOne.number_back m M.out.1.1 M.out.1.2 i HLi.out (by omega) _ (Nat.le_refl _))
      generalize strOfNums (Digits.dl m i) = s5 at *
      go_wp2_with fail
      refine (PA.octet_Number.calls _ s5 m 0 _ F5.out).mono ?_
      rintro e w12 ⟨rfl, n12, rfl⟩
      have HB12 := Lib.hid (pw_below_drewN HB11.out n12)
      generalize w11.drewN n12 = w12 at *
      clear HB11 F5
      by_cases hmn : m > n
      · go_wp2_with fail
        refine (Works.works _).mono ?_
        rintro e w13 ⟨rfl, hb⟩
        have HB13 : Hid (Below w.heap.size w w13) := HB12.out.trans (hb.mono HB12.out.size)
        clear hb HB12
        go_wp2
        go_ret
        exact ⟨rfl, HB13.out⟩
      · go_wp2_with fail
        refine (Digits.digits m _ M.out.1.1 M.out.1.2).mono ?_
        rintro e w13 ⟨⟨i2, hi, hz, hni, rfl⟩, hb⟩
        have hL2 : PureOne.Long m i2 := ⟨hi, hz, hni⟩
        have HB13 : Hid (Below w.heap.size w w13) := HB12.out.trans (hb.mono HB12.out.size)
        have hs5 : (strOfNums (Digits.dl m i2)).size = i2 := by rw [PureOne.str_size, Digits.dl_length]
        clear hi hz hni hb HB12
        have hi3 := PureOne.long20 m i2 hL2 M.out.1.1 M.out.1.2
        generalize strOfNums (Digits.dl m i2) = s6 at *
        go_wp2_with fail
        refine (Digits.digits n _ M.out.2.1 M.out.2.2).mono ?_
        rintro e w14 ⟨⟨j2, hj, hz, hnj, rfl⟩, hb⟩
        have hL3 : PureOne.Long n j2 := ⟨hj, hz, hnj⟩
        have HB14 : Hid (Below w.heap.size w w14) := HB13.out.trans (hb.mono HB13.out.size)
        have hs6 : (strOfNums (Digits.dl n j2)).size = j2 := by rw [PureOne.str_size, Digits.dl_length]
        clear hj hz hnj hb HB13
        have hj3 := PureOne.long20 n j2 hL3 M.out.2.1 M.out.2.2
        have hle := hL2.le hL3 M.out.1.1 (by omega)
        generalize strOfNums (Digits.dl n j2) = s7 at *
        have hle2 : (s6.size : Int) ≤ (s7.size : Int) := by omega
        clear hL2 hL3
        go_wp2_with fail
        refine (Works.works _).mono ?_
        rintro e w15 ⟨rfl, hb⟩
        have HB15 : Hid (Below w.heap.size w w15) := HB14.out.trans (hb.mono HB14.out.size)
        clear hb HB14
        go_wp2
        go_ret
        exact ⟨rfl, HB15.out⟩
end Go.Proofs.Ytengdchgfhcdhaa.HOctetOne
