/- It is proved here that the law GcmSeals, called with any texts, answers true and leaves what was there alone. No condition. -/
import Derived.Test.YtbebmbcjddibaaaGap
namespace Go.Proofs.Ytbebmbcjddibaaa.HGcmSeals
set_option linter.unusedVariables false
set_option linter.unusedSimpArgs false
open Go.RowKit Go.Proofs.YtbebmbcjddibaaaW.PrintWords Go.Proofs.YtbebmbcjddibaaaW.PrintLast Go.Proofs.YtbebmbcjddibaaaW.PrintMore
open Gf Gfi Poly AesF Aes Lng Gcm
attribute [local go_sem ↓] ld22 ld12 ld23 st23
set_option maxRecDepth 100000 in
set_option maxHeartbeats 4000000 in
theorem long (key nonce : Nat → B) (A1 A2 : Option Addr) (c1 c2 : Nat) (l1 l2 : List Int) (w : World) (hl : 131072 < l1.length ∨ 131072 < l2.length) : Calls Try.prog 3 #[.agg (seC key nonce (.slice A1 l1.length c1) (.slice A2 l2.length c2))] w fun e w' => e = .returned (.bool true) ∧ Below w.heap.size w w' := by
  have HS := Lib.hid (Bx.start w key nonce (.slice A1 l1.length c1) (.slice A2 l2.length c2))
  have q1 := HS.out.la
  have q2 := HS.out.lb
  by_cases g1 : l1.length ≤ 131072
  · have g1' : ¬ (l1.length : Int) > 131072 := by omega
    have g2' : (l2.length : Int) > 131072 := by omega
    go_enter Try.func3, Try.ntmps3
    go_wp2_with fail
    refine (works _).mono ?_
    rintro e w1 ⟨rfl, hb⟩
    replace HS := Lib.hid (HS.out.step hb)
    clear hb q1 q2
    go_wp2_with fail
    go_ret
    exact ⟨rfl, HS.out.below⟩
  · have g1' : (l1.length : Int) > 131072 := by omega
    go_enter Try.func3, Try.ntmps3
    go_wp2_with fail
    refine (works _).mono ?_
    rintro e w1 ⟨rfl, hb⟩
    replace HS := Lib.hid (HS.out.step hb)
    clear hb q1 q2
    go_wp2_with fail
    go_ret
    exact ⟨rfl, HS.out.below⟩
set_option maxRecDepth 100000 in
set_option maxHeartbeats 4000000 in
theorem law (key nonce : Nat → B) (A1 A2 : Option Addr) (c1 c2 : Nat) (l1 l2 : List Int) (w : World) (h1 : Txt w A1 c1 l1) (h2 : Txt w A2 c2 l2) (g1 : l1.length ≤ 131072) (g2 : l2.length ≤ 131072) : Calls Try.prog 3 #[.agg (seC key nonce (.slice A1 l1.length c1) (.slice A2 l2.length c2))] w fun e w' => e = .returned (.bool true) ∧ Below w.heap.size w w' := by
  obtain ⟨kc, E, hC⟩ := open_key key
  have HC := Lib.hid hC
  have HS := Lib.hid (Se.start (key := key) (nonce := nonce) h1 h2)
  have q1 := HS.out.la
  have q2 := HS.out.lb
  clear hC h1 h2
  have HN1 := Lib.hid g1
  have HN2 := Lib.hid g2
  have g1' : ¬ (l1.length : Int) > 131072 := by omega
  have g2' : ¬ (l2.length : Int) > 131072 := by omega
  clear g1 g2
  obtain ⟨s, hs⟩ : ∃ s, s = sealU E nonce l1 l2 := ⟨_, rfl⟩
  have HSE := Lib.hid hs
  have HLN : Hid (s.length ≤ 65552) := by show s.length ≤ _; rw [hs]; exact sealU_len _ _ _ _
  clear hs
  go_enter Try.func3, Try.ntmps3
  go_wp2_with fail
  generalize w.alloc (.cells (seC key nonce (.slice A1 l1.length c1) (.slice A2 l2.length c2)) 26) = w0 at *
  have hz := HS.out.below.size
  refine (roomy_t HS.out.t1).mono ?_
  rintro e w1 ⟨A3, c3, rfl, hT3, hM3, hb⟩
  replace HS := Lib.hid (HS.out.step hb)
  have HR3 := Lib.hid (hM3.row.lower hz)
  have HO3 : Hid (In _ _ _) := hM3.row.lt
  have HT3 := Lib.hid hT3
  have HM3 := Lib.hid hM3
  clear hT3 hM3 hb hz q1 q2 g1' g2'
  have q1 := HS.out.la
  have q2 := HS.out.lb
  have lk := HS.out.lk
  have ln := HS.out.ln
  go_wp2_with fail
  clear q1 q2 lk ln
  have hz := HS.out.below.size
  refine (roomy_t HS.out.t2).mono ?_
  rintro e w2 ⟨A4, c4, rfl, hT4, hM4, hb⟩
  replace HS := Lib.hid (HS.out.step hb)
  replace HT3 := Lib.hid (HT3.out.below hb)
  replace HM3 := Lib.hid (HM3.out.below hb)
  replace HR3 := Lib.hid (HR3.out.below hb)
  have HR4 := Lib.hid (hM4.row.lower hz)
  have HO4 : Hid (In _ _ _) := hM4.row.lt
  have HK2 : Hid (w1.heap.size ≤ w2.heap.size) := hb.size
  have HT4 := Lib.hid hT4
  have HM4 := Lib.hid hM4
  clear hT4 hM4 hb hz
  have q1 := HS.out.la
  have q2 := HS.out.lb
  have lk := HS.out.lk
  have ln := HS.out.ln
  go_wp2_with fail
  clear q1 q2 lk ln
  have hz := HS.out.below.size
  refine (sealU_t (nonce := nonce) HC.out HT3.out HT4.out s HSE.out).mono ?_
  rintro e w3 ⟨A5, c5, rfl, hT5, hI5, hb⟩
  replace HS := Lib.hid (HS.out.step hb)
  replace HT3 := Lib.hid (HT3.out.below hb)
  replace HM3 := Lib.hid (HM3.out.below hb)
  replace HR3 := Lib.hid (HR3.out.below hb)
  replace HT4 := Lib.hid (HT4.out.below hb)
  replace HM4 := Lib.hid (HM4.out.below hb)
  replace HR4 := Lib.hid (HR4.out.below hb)
  have HR5 := Lib.hid (hI5.lower hz)
  have HO5 : Hid (In _ _ _) := hI5.lt
  have HK3 : Hid (w2.heap.size ≤ w3.heap.size) := hb.size
  have HT5 := Lib.hid hT5
  clear hT5 hI5 hb hz
  have q1 := HS.out.la
  have q2 := HS.out.lb
  have lk := HS.out.lk
  have ln := HS.out.ln
  go_wp2_with fail
  clear q1 q2 lk ln
  have hz := HS.out.below.size
  refine (sealU_t (nonce := nonce) HC.out HT3.out HT4.out s HSE.out).mono ?_
  rintro e w4 ⟨A6, c6, rfl, _, hI6, hb⟩
  replace HS := Lib.hid (HS.out.step hb)
  replace HT3 := Lib.hid (HT3.out.below hb)
  replace HM3 := Lib.hid (HM3.out.below hb)
  replace HR3 := Lib.hid (HR3.out.below hb)
  replace HT4 := Lib.hid (HT4.out.below hb)
  replace HM4 := Lib.hid (HM4.out.below hb)
  replace HR4 := Lib.hid (HR4.out.below hb)
  replace HT5 := Lib.hid (HT5.out.below hb)
  replace HR5 := Lib.hid (HR5.out.below hb)
  have HR6 := Lib.hid (hI6.lower hz)
  have HO6 : Hid (In _ _ _) := hI6.lt
  clear hI6 hb hz
  have q1 := HS.out.la
  have q2 := HS.out.lb
  have lk := HS.out.lk
  have ln := HS.out.ln
  go_wp2_with fail
  clear q1 q2 lk ln
  have HUN := Lib.hid (four_un HO5.out HO3.out HO6.out HO4.out (Nat.le_refl _) (Nat.le_refl _) (Nat.le_refl _) HK2.out HK3.out)
  clear HO3 HO4 HO5 HO6 HK2 HK3
  refine (rsealU_t (nonce := nonce) HC.out HS.out.t1 HS.out.t2 s HSE.out).mono ?_
  rintro e w5 ⟨A7, c7, rfl, hT7, _, hb⟩
  replace HS := Lib.hid (HS.out.step hb)
  replace HT3 := Lib.hid (HT3.out.below hb)
  replace HM3 := Lib.hid (HM3.out.below hb)
  replace HR3 := Lib.hid (HR3.out.below hb)
  replace HT4 := Lib.hid (HT4.out.below hb)
  replace HM4 := Lib.hid (HM4.out.below hb)
  replace HR4 := Lib.hid (HR4.out.below hb)
  replace HT5 := Lib.hid (HT5.out.below hb)
  replace HR5 := Lib.hid (HR5.out.below hb)
  replace HR6 := Lib.hid (HR6.out.below hb)
  have HT7 := Lib.hid hT7
  clear hT7 hb
  have q1 := HS.out.la
  have q2 := HS.out.lb
  have lk := HS.out.lk
  have ln := HS.out.ln
  go_wp2_with fail
  clear q1 q2 lk ln
  refine (eq_t HT5.out HT7.out rfl).mono ?_
  rintro e w6 ⟨rfl, hb⟩
  replace HS := Lib.hid (HS.out.step hb)
  replace HT3 := Lib.hid (HT3.out.below hb)
  replace HM3 := Lib.hid (HM3.out.below hb)
  replace HR3 := Lib.hid (HR3.out.below hb)
  replace HT4 := Lib.hid (HT4.out.below hb)
  replace HM4 := Lib.hid (HM4.out.below hb)
  replace HR4 := Lib.hid (HR4.out.below hb)
  replace HT5 := Lib.hid (HT5.out.below hb)
  replace HR5 := Lib.hid (HR5.out.below hb)
  replace HR6 := Lib.hid (HR6.out.below hb)
  clear hb HT7
  have q1 := HS.out.la
  have q2 := HS.out.lb
  have lk := HS.out.lk
  have ln := HS.out.ln
  go_wp2_with fail
  clear q1 q2 lk ln
  refine (kept_t HM3.out HS.out.t1).mono ?_
  rintro e w7 ⟨rfl, hb⟩
  replace HS := Lib.hid (HS.out.step hb)
  replace HT3 := Lib.hid (HT3.out.below hb)
  replace HM3 := Lib.hid (HM3.out.below hb)
  replace HR3 := Lib.hid (HR3.out.below hb)
  replace HT4 := Lib.hid (HT4.out.below hb)
  replace HM4 := Lib.hid (HM4.out.below hb)
  replace HR4 := Lib.hid (HR4.out.below hb)
  replace HT5 := Lib.hid (HT5.out.below hb)
  replace HR5 := Lib.hid (HR5.out.below hb)
  replace HR6 := Lib.hid (HR6.out.below hb)
  clear hb
  have q1 := HS.out.la
  have q2 := HS.out.lb
  have lk := HS.out.lk
  have ln := HS.out.ln
  go_wp2_with fail
  clear q1 q2 lk ln
  refine (kept_t HM4.out HS.out.t2).mono ?_
  rintro e w8 ⟨rfl, hb⟩
  replace HS := Lib.hid (HS.out.step hb)
  replace HT3 := Lib.hid (HT3.out.below hb)
  replace HM3 := Lib.hid (HM3.out.below hb)
  replace HR3 := Lib.hid (HR3.out.below hb)
  replace HT4 := Lib.hid (HT4.out.below hb)
  replace HM4 := Lib.hid (HM4.out.below hb)
  replace HR4 := Lib.hid (HR4.out.below hb)
  replace HT5 := Lib.hid (HT5.out.below hb)
  replace HR5 := Lib.hid (HR5.out.below hb)
  replace HR6 := Lib.hid (HR6.out.below hb)
  clear hb
  have hlit := lit4 w8 w.heap.size HS.out.below.size (.slice A5 s.length c5) (.slice A3 l1.length c3) (.slice A6 s.length c6) (.slice A4 l2.length c4)
  rw [← four_rows] at hlit
  have HLIT := Lib.hid hlit
  have hal := (Below.refl w8.heap.size w8).alloc (Nat.le_refl _) (.cells #[.slice A5 s.length c5, .slice A3 l1.length c3, .slice A6 s.length c6, .slice A4 l2.length c4] 24)
  replace HS := Lib.hid (HS.out.step hal)
  replace HR5 := Lib.hid (HR5.out.below hal)
  replace HR3 := Lib.hid (HR3.out.below hal)
  replace HR6 := Lib.hid (HR6.out.below hal)
  replace HR4 := Lib.hid (HR4.out.below hal)
  clear hlit hal
  go_wp2_with fail
  refine (Apart.apart w.heap.size w8.heap.size 4 4 _ (fourL s l1 s l2) _ HLIT.out (fun q hq => ?_) HUN.out HS.out.below.size (by decide) (fun q hq => ?_)).mono ?_
  · rcases (show q = 0 ∨ q = 1 ∨ q = 2 ∨ q = 3 by omega) with rfl | rfl | rfl | rfl
    · exact HR5.out
    · exact HR3.out
    · exact HR6.out
    · exact HR4.out
  · rcases (show q = 0 ∨ q = 1 ∨ q = 2 ∨ q = 3 by omega) with rfl | rfl | rfl | rfl
    · show s.length ≤ _; have := HLN.out; omega
    · show l1.length ≤ _; have := HN1.out; omega
    · show s.length ≤ _; have := HLN.out; omega
    · show l2.length ≤ _; have := HN2.out; omega
  rintro e w9 ⟨rfl, hb⟩
  have HB9 := Lib.hid (HS.out.below.trans hb)
  clear hb HS HLIT HUN
  go_wp2_with fail
  refine (works _).mono ?_
  rintro e wa ⟨rfl, hb⟩
  have HBa := Lib.hid (HB9.out.trans (hb.mono HB9.out.size))
  clear hb HB9
  go_wp2_with fail
  go_ret
  exact ⟨rfl, HBa.out⟩

/-- The law, whatever the texts. -/
theorem any (key nonce : Nat → B) (A1 A2 : Option Addr) (c1 c2 : Nat) (l1 l2 : List Int) (w : World) (h1 : Arg w A1 c1 l1) (h2 : Arg w A2 c2 l2) : Calls Try.prog 3 #[.agg (seC key nonce (.slice A1 l1.length c1) (.slice A2 l2.length c2))] w fun e w' => e = .returned (.bool true) ∧ Below w.heap.size w w' := by
  by_cases g1 : l1.length ≤ 131072
  · by_cases g2 : l2.length ≤ 131072
    · exact law key nonce A1 A2 c1 c2 l1 l2 w (h1.txt (by omega)) (h2.txt (by omega)) g1 g2
    · exact long key nonce A1 A2 c1 c2 l1 l2 w (Or.inr (by omega))
  · exact long key nonce A1 A2 c1 c2 l1 l2 w (Or.inl (by omega))
end Go.Proofs.Ytbebmbcjddibaaa.HGcmSeals
