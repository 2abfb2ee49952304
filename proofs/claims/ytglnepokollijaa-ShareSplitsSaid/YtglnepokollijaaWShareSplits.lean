/- It is proved here that the law ShareSplits, called with any secret, numbers and draws, answers true and leaves what was there alone. No condition. -/
import Derived.Test.YtglnepokollijaaWorks4
import Derived.Test.YtglnepokollijaaSplits
import Derived.Test.YtglnepokollijaaPureSplit
import Derived.BigQuiet
import Derived.Deep.QuietTactic
import Derived.WalkSpells
namespace Go.Proofs.Ytglnepokollijaa.HShareSplits
set_option linter.unusedVariables false
set_option linter.unusedSimpArgs false
open Go.RowKit Go.Proofs.Ytglnepokollijaa.Row Go.Proofs.YtglnepokollijaaW.PrintWords Go.Proofs.YtglnepokollijaaW.PrintLast Go.Proofs.YtglnepokollijaaW.PrintMore
open Splits

theorem boxed {w w' : World} {o : Obj} (h : Below (w.alloc o).heap.size (w.alloc o) w') : Below w.heap.size w w' := by
  have h1 : Below w.heap.size w (w.alloc o) := (Below.refl w.heap.size w).alloc (Nat.le_refl _) o
  exact h1.trans (h.mono h1.size)
set_option maxHeartbeats 1000000 in
theorem law_far (A0 A3 : Option Addr) (c0 n0 c3 n3 : Nat) (a1 a2 : Int) (w : World) (h : 4096 < n0 ∨ 65536 < n3) (hm : n0 ≤ 9223372036854775807) (hm2 : n3 ≤ 9223372036854775807) :
    Calls Try.prog 3 #[.agg #[.slice A0 n0 c0, .int .i64 a1, .int .i64 a2, .slice A3 n3 c3]] w fun e w' => e = .returned (.bool true) ∧ Below w.heap.size w w' := by
  by_cases h1 : 4096 < n0
  · go_enter Try.func3, Try.ntmps3
    go_wp2_with fail
    refine (Works4.works _).mono ?_
    rintro e w1 ⟨rfl, hb⟩
    have hb1 : Below w.heap.size w w1 := boxed hb
    go_wp2
    go_ret
    exact ⟨rfl, hb1⟩
  · have h2 : 65536 < n3 := h.resolve_left h1
    go_enter Try.func3, Try.ntmps3
    go_wp2_with fail
    refine (Works4.works _).mono ?_
    rintro e w1 ⟨rfl, hb⟩
    have hb1 : Below w.heap.size w w1 := boxed hb
    go_wp2
    go_ret
    exact ⟨rfl, hb1⟩
/-- What stands. -/
structure St (w W : World) (v3 v4 : Value) (l0 l3 : List Int) (A0 A3 : Option Addr) (x0 x1 x2 x3 : Value) : Prop where
  s : Room.Is W w.heap.size v3 l0
  d : Room.Is W w.heap.size v4 l3
  p0 : Kd.C (Kd.int .u8) W A0 l0.length l0
  p3 : Kd.C (Kd.int .u8) W A3 l3.length l3
  box : Bx W w.heap.size x0 x1 x2 x3
  below : Below w.heap.size w W
theorem St.step {w W W' : World} {v3 v4 : Value} {l0 l3 : List Int} {A0 A3 : Option Addr} {x0 x1 x2 x3 : Value} (h : St w W v3 v4 l0 l3 A0 A3 x0 x1 x2 x3) (hb : Below W.heap.size W W') : St w W' v3 v4 l0 l3 A0 A3 x0 x1 x2 x3 :=
  ⟨h.s.below hb, h.d.below hb, Kd.C_below h.p0 hb, Kd.C_below h.p3 hb, h.box.below hb, h.below.trans (hb.mono h.below.size)⟩
theorem St.drewN {w W : World} {v3 v4 : Value} {l0 l3 : List Int} {A0 A3 : Option Addr} {x0 x1 x2 x3 : Value} (h : St w W v3 v4 l0 l3 A0 A3 x0 x1 x2 x3) (n : Nat) : St w (W.drewN n) v3 v4 l0 l3 A0 A3 x0 x1 x2 x3 := h.step (pw_below_drewN (Below.refl _ W) n)

set_option maxHeartbeats 4000000 in
theorem law (A0 : Option Addr) (c0 : Nat) (l0 : List Int) (a1 a2 : Int) (A3 : Option Addr) (c3 : Nat) (l3 : List Int) (w : World) (hr0 : Kd.C (Kd.int .u8) w A0 l0.length l0) (hc0 : l0.length ≤ c0) (hr3 : Kd.C (Kd.int .u8) w A3 l3.length l3) (hc3 : l3.length ≤ c3)
    (hw0 : ∀ x ∈ l0, 0 ≤ x ∧ x < 256) (hw3 : ∀ x ∈ l3, 0 ≤ x ∧ x < 256) (hm0 : l0.length ≤ 9223372036854775807) (hm3 : l3.length ≤ 9223372036854775807) (hn : -9223372036854775808 ≤ a1 ∧ a1 ≤ 9223372036854775807) (hk : -9223372036854775808 ≤ a2 ∧ a2 ≤ 9223372036854775807) :
    Calls Try.prog 3 #[.agg #[.slice A0 l0.length c0, .int .i64 a1, .int .i64 a2, .slice A3 l3.length c3]] w fun e w' => e = .returned (.bool true) ∧ Below w.heap.size w w' := by
  by_cases hfar : 4096 < l0.length ∨ 65536 < l3.length
  · exact law_far A0 A3 c0 l0.length c3 l3.length a1 a2 w hfar hm0 hm3
  · have hl0 : l0.length ≤ 4096 := by omega
    have hl3 : l3.length ≤ 65536 := by omega
    obtain ⟨K, ⟨r1, r2⟩, hf1, hf2⟩ := PureSplit.both l0 a1 a2 l3 hl0 hl3 hw0 hw3 hn hk
    have F1 := Lib.hid hf1
    have F2 := Lib.hid hf2
    have HC0 := Lib.hid hr0
    have HC3 := Lib.hid hr3
    clear hfar hm0 hm3 hf1 hf2 hw0 hw3 hr0 hr3 hn hk
    go_enter Try.func3, Try.ntmps3
    have HX0 := Lib.hid (Bx.new w 24 (.slice A0 l0.length c0) (.int .i64 a1) (.int .i64 a2) (.slice A3 l3.length c3))
    have HB0 : Hid (Below w.heap.size w (w.alloc (.cells #[.slice A0 l0.length c0, .int .i64 a1, .int .i64 a2, .slice A3 l3.length c3] 24))) := (Below.refl w.heap.size w).alloc (Nat.le_refl _) _
    go_wp2_with fail
    have HA0 := Lib.hid (Kd.C_below HC0.out HB0.out)
    have HA3 := Lib.hid (Kd.C_below HC3.out HB0.out)
    clear HC0 HC3
    obtain ⟨W0, hW0⟩ : ∃ W0, W0 = w.alloc (.cells #[.slice A0 l0.length c0, .int .i64 a1, .int .i64 a2, .slice A3 l3.length c3] 24) := ⟨_, rfl⟩
    rw [← hW0] at HX0 HB0 HA0 HA3 ⊢
    clear hW0
    refine (Room.roomy_calls A0 c0 l0 _ HA0.out hc0 (by omega)).mono ?_
    rintro e w1 ⟨v3, rfl, hR, hb⟩
    have HS := Lib.hid (hR.low HB0.out.size)
    have O3 := Lib.hid ((Is.row hR).lt)
    have HX1 := Lib.hid (HX0.out.below hb)
    have HA01 := Lib.hid (Kd.C_below HA0.out hb)
    have HA31 := Lib.hid (Kd.C_below HA3.out hb)
    have HB1 : Hid (Below w.heap.size w w1) := HB0.out.trans (hb.mono HB0.out.size)
    clear hR hb HX0 HA0 HA3 HB0
    obtain ⟨b0, b1, b2, b3⟩ := HX1.out
    go_wp2_with fail
    refine (Room.roomy_calls A3 c3 l3 _ HA31.out hc3 (by omega)).mono ?_
    rintro e w2 ⟨v4, rfl, hR, hb⟩
    have HD := hR.low HB1.out.size
    have O4 := Lib.hid ((Is.row hR).lt)
    have HT2 : Hid (St w w2 v3 v4 l0 l3 A0 A3 (.slice A0 l0.length c0) (.int .i64 a1) (.int .i64 a2) (.slice A3 l3.length c3)) := ⟨HS.out.below hb, HD, Kd.C_below HA01.out hb, Kd.C_below HA31.out hb, HX1.out.below hb, HB1.out.trans (hb.mono HB1.out.size)⟩
    have hsz2 : Hid (w1.heap.size ≤ w2.heap.size) := hb.size
    clear hR hb HX1 HA01 HA31 HB1 HS HD b0 b1 b2 b3
    obtain ⟨A3', c3', rfl, hc3', hC3'⟩ := HT2.out.s.reads
    obtain ⟨A4', c4', rfl, hc4', hC4'⟩ := HT2.out.d.reads
    have H3 := Lib.hid hC3'
    have H4 := Lib.hid hC4'
    clear hC3' hC4'
    obtain ⟨b0, b1, b2, b3⟩ := HT2.out.box
    go_wp2_with fail
    refine (split_all A3' c3' l0 a1 a2 A4' c4' l3 r1 r2 _ H3.out hc3' H4.out hc4' F2.out).mono ?_
    rintro e w3 ⟨A5, c5, us, ls, rfl, hans⟩
    have HN3 := Lib.hid hans
    have HT3 := Lib.hid (HT2.out.step hans.below)
    have hs3 := hans.below.size
    have HZ3 := Lib.hid hs3
    have hn16 := hans.few
    clear hans hs3 H3 H4 b0 b1 b2 b3 F2
    obtain ⟨b0, b1, b2, b3⟩ := HT3.out.box
    go_wp2_with fail
    refine (PT.ciboriumref04_Split.calls K A0 c0 l0 a1 a2 A3 c3 l3 r1 r2 _ HT3.out.p0 hc0 HT3.out.p3 hc3 F1.out).mono ?_
    rintro e w4 ⟨v7, rfl, hS, hb⟩
    obtain ⟨A7, c7, rfl⟩ := Kd.S_slice hS
    obtain ⟨_, hc7, hC7⟩ := S_C hS
    have H7 := Lib.hid hC7
    have HT4 := Lib.hid (HT3.out.step hb)
    have HB34 := Lib.hid hb
    have H5 := Lib.hid (Kd.C_below HN3.out.reads hb)
    have hc5 := HN3.out.cap
    clear hS hC7 hb HT3 F1 b0 b1 b2 b3
    obtain ⟨b0, b1, b2, b3⟩ := HT4.out.box
    go_wp2_with fail
    refine (PT.ciboriumlaw04_same.calls (r1.length + 1) A5 c5 r1 A7 c7 r1 true _ H5.out hc5 H7.out hc7 (PureSplit.same_f r1 (by omega))).mono ?_
    rintro e w5 ⟨rfl, n5, rfl⟩
    have HT5 := Lib.hid (HT4.out.drewN n5)
    have HB35 := Lib.hid (pw_below_drewN HB34.out n5)
    clear HT4 HB34 H5 H7 b0 b1 b2 b3
    generalize w4.drewN n5 = w5 at *
    obtain ⟨b0, b1, b2, b3⟩ := HT5.out.box
    go_wp2_with fail
    refine (Room.kept_calls w.heap.size _ A0 c0 l0 _ HT5.out.s HT5.out.p0 hc0).mono ?_
    rintro e w6 ⟨rfl, n6, rfl⟩
    have HT6 := Lib.hid (HT5.out.drewN n6)
    have HB36 := Lib.hid (pw_below_drewN HB35.out n6)
    clear HT5 HB35 b0 b1 b2 b3
    generalize w5.drewN n6 = w6 at *
    obtain ⟨b0, b1, b2, b3⟩ := HT6.out.box
    go_wp2_with fail
    refine (Room.kept_calls w.heap.size _ A3 c3 l3 _ HT6.out.d HT6.out.p3 hc3).mono ?_
    rintro e w7 ⟨rfl, n7, rfl⟩
    have HT7 := Lib.hid (HT6.out.drewN n7)
    have HB37 := Lib.hid (pw_below_drewN HB36.out n7)
    clear HT6 HB36 b0 b1 b2 b3
    generalize w6.drewN n7 = w7 at *
    go_wp2_with fail
    refine (Ys.ys_calls A5 r1.length c5 us _ (HN3.out.rows.below HB37.out) (by omega)).mono ?_
    rintro e w8 ⟨v9, rfl, hV, hb⟩
    have HV := Lib.hid (hV.low HT7.out.below.size)
    have HT8 := Lib.hid (HT7.out.step hb)
    have HB38 := Lib.hid (HB37.out.trans (hb.mono HB37.out.size))
    clear hV hb HT7 HB37
    go_wp2_with ((refine Ys.appendVs w.heap.size _ _ v9 [.slice A3' l0.length c3', .slice A4' l3.length c4'] (Apart.rows r1.length us) rfl rfl rfl rfl HV.out (by intro u hu; simp at hu; rcases hu with rfl | rfl <;> rfl) HT8.out.below.size (by rw [Apart.rows_len]; omega) (by simp) ?_); intro v10 w9 h1 h2 h3)
    rw [two_rows] at h1
    have HV9 := Lib.hid h1
    have HB9 := Lib.hid (HT8.out.below.trans h2)
    have HE9 : Hid (∀ q, q < r1.length + 2 → Row.Is w9 w.heap.size (two r1.length us (.slice A3' l0.length c3') (.slice A4' l3.length c4') q) (twoL r1.length ls l0 l3 q) ∧ (twoL r1.length ls l0 l3 q).length ≤ 1000000000) := fun q hq => by
      have hz := HT2.out.below.size
      have keep : ∀ u l, Row.Is w8 w.heap.size u l → Row.Is w9 w.heap.size u l := fun u l h => h.grown h3 (fun k hk e => HV.out.apart h k e.symm hk)
      unfold two twoL
      split
      · rename_i hq1
        obtain ⟨g1, g2⟩ := HN3.out.each q hq1
        exact ⟨keep _ _ ((g1.below HB38.out).lower hz), by omega⟩
      · split
        · exact ⟨keep _ _ (Is.row HT8.out.s), by omega⟩
        · exact ⟨keep _ _ (Is.row HT8.out.d), by omega⟩
    have HU9 := Lib.hid (two_un (h1 := w1.heap.size) (h2 := w2.heap.size) HN3.out.un (fun q hq k hk => ((HN3.out.each q hq).1.lt k hk).1) (fun k hk => (O3.out k hk).2) (fun k hk => ⟨(O4.out k hk).1, (O4.out k hk).2⟩) hsz2.out)
    clear h1 h2 h3 HN3 HB38 HV HT8 HT2 O3 O4 hsz2 HZ3
    obtain ⟨g, c10, rfl, hn10, _, _⟩ := HV9.out.shape (by rw [Apart.rows_len]; omega)
    rw [Apart.rows_len] at hn10 ⊢
    have HV10 : Hid (IsV w9 w.heap.size (.slice (some ⟨g, 0, none⟩) (r1.length + 2) c10) (Apart.rows (r1.length + 2) (two r1.length us (.slice A3' l0.length c3') (.slice A4' l3.length c4')))) := by
      have := HV9.out
      rw [Apart.rows_len] at this
      exact this
    clear HV9
    go_wp2_with fail
    refine (Apart.apart w.heap.size g (r1.length + 2) c10 _ (twoL r1.length ls l0 l3) _ HV10.out (fun q hq => (HE9.out q hq).1) HU9.out HB9.out.size (by omega) (fun q hq => (HE9.out q hq).2)).mono ?_
    rintro e w10 ⟨rfl, hb⟩
    have HB10 : Hid (Below w.heap.size w w10) := HB9.out.trans hb
    clear hb HV10 HE9 HU9 HB9
    go_wp2_with fail
    refine (Works4.works _).mono ?_
    rintro e w11 ⟨rfl, hb⟩
    have HB11 : Hid (Below w.heap.size w w11) := HB10.out.trans (hb.mono HB10.out.size)
    clear hb HB10
    go_wp2
    go_ret
    exact ⟨rfl, HB11.out⟩
end Go.Proofs.Ytglnepokollijaa.HShareSplits
