/- It is proved here that the law ShareTexts, called with any share and any text, answers true and leaves what was there alone. No condition. -/
import Derived.Test.YtglnepokollijaaWorks4
import Derived.Test.YtglnepokollijaaRoom
import Derived.Test.YtglnepokollijaaShRead
namespace Go.Proofs.Ytglnepokollijaa.HShareTexts
set_option linter.unusedVariables false
set_option linter.unusedSimpArgs false
open Go.RowKit Go.Proofs.Ytglnepokollijaa.Row Go.Proofs.YtglnepokollijaaW.PrintWords Go.Proofs.YtglnepokollijaaW.PrintLast Go.Proofs.YtglnepokollijaaW.PrintMore
open PT PureTexts ShRead

theorem boxed {w w' : World} {o : Obj} (h : Below (w.alloc o).heap.size (w.alloc o) w') : Below w.heap.size w w' := by
  have h1 : Below w.heap.size w (w.alloc o) := (Below.refl w.heap.size w).alloc (Nat.le_refl _) o
  exact h1.trans (h.mono h1.size)
set_option maxHeartbeats 1000000 in
theorem law_far (x : Int) (A0 : Option Addr) (c0 n0 : Nat) (t : ByteArray) (w : World) (h : 8192 < n0 ∨ 16384 < t.size) (hm : n0 ≤ 9223372036854775807) (hm2 : t.size ≤ 9223372036854775807) :
    Calls Try.prog 7 #[.agg #[.int .u8 x, .slice A0 n0 c0], .string t] w fun e w' => e = .returned (.bool true) ∧ Below w.heap.size w w' := by
  by_cases h1 : 8192 < n0
  · go_enter Try.func7, Try.ntmps7
    go_wp2_with fail
    refine (Works4.works _).mono ?_
    rintro e w1 ⟨rfl, hb⟩
    have hb1 : Below w.heap.size w w1 := boxed hb
    go_wp2
    go_ret
    exact ⟨rfl, hb1⟩
  · have h2 : 16384 < t.size := h.resolve_left h1
    go_enter Try.func7, Try.ntmps7
    go_wp2_with fail
    refine (Works4.works _).mono ?_
    rintro e w1 ⟨rfl, hb⟩
    have hb1 : Below w.heap.size w w1 := boxed hb
    go_wp2
    go_ret
    exact ⟨rfl, hb1⟩
theorem _root_.Go.Proofs.Ytglnepokollijaa.Room.Is.lowT {W : World} {base b : Nat} {v : Value} {l : List Int} (h : Room.Is W base v l) (hb : b ≤ base) : Room.Is W b v l := by
  obtain ⟨g, cap, e, hc, ho⟩ := h
  exact ⟨g, cap, e, hc, own_weaken ho hb⟩
/-- What stands. -/
structure St (w W : World) (v5 : Value) (l0 : List Int) (A0 : Option Addr) (x : Int) (c0 : Nat) : Prop where
  s : Room.Is W w.heap.size v5 l0
  p0 : Kd.C (Kd.int .u8) W A0 l0.length l0
  box : Blk.Is W w.heap.size #[.int .u8 x, .slice A0 l0.length c0] 44
  below : Below w.heap.size w W
theorem St.step {w W W' : World} {v5 : Value} {l0 : List Int} {A0 : Option Addr} {x : Int} {c0 : Nat} (h : St w W v5 l0 A0 x c0) (hb : Below W.heap.size W W') : St w W' v5 l0 A0 x c0 :=
  ⟨h.s.below hb, Kd.C_below h.p0 hb, h.box.below hb h.box.lt, h.below.trans (hb.mono h.below.size)⟩
theorem St.x0 {w W : World} {v5 : Value} {l0 : List Int} {A0 : Option Addr} {x : Int} {c0 : Nat} (h : St w W v5 l0 A0 x c0) : W.cell? ⟨w.heap.size, 0, none⟩ = some (.int .u8 x) := h.box.cell 0
theorem St.x1 {w W : World} {v5 : Value} {l0 : List Int} {A0 : Option Addr} {x : Int} {c0 : Nat} (h : St w W v5 l0 A0 x c0) : W.cell? ⟨w.heap.size, 1, none⟩ = some (.slice A0 l0.length c0) := h.box.cell 1
/-- A share in a variable of its own. -/
theorem kept_var {W : World} (v0 v1 u0 u1 : Value) : Blk.Is (((W.alloc (.cells #[v0, v1] 44)).setCell ⟨W.heap.size, 0, none⟩ u0).setCell ⟨W.heap.size, 1, none⟩ u1) W.heap.size #[u0, u1] 44 := ((Blk.Is.new W #[v0, v1] 44).set 0 u0).set 1 u1
theorem below_var {W : World} (v0 v1 u0 u1 : Value) : Below W.heap.size W (((W.alloc (.cells #[v0, v1] 44)).setCell ⟨W.heap.size, 0, none⟩ u0).setCell ⟨W.heap.size, 1, none⟩ u1) := (((Below.refl W.heap.size W).alloc (Nat.le_refl _) _).setCell (Nat.le_refl _) _).setCell (Nat.le_refl _) _

theorem eq_f (l : List Int) : PA.ciboriumref00_EqBytes.f l l = some true := by unfold PA.ciboriumref00_EqBytes.f; simp
--MARK

set_option maxHeartbeats 4000000 in
theorem law_err (x : Int) (A0 : Option Addr) (c0 : Nat) (l0 : List Int) (t : ByteArray) (w : World) (hr0 : Kd.C (Kd.int .u8) w A0 l0.length l0) (hc0 : l0.length ≤ c0) (hl0 : l0.length ≤ 8192) (hs : t.size ≤ 16384) (hx : 0 ≤ x ∧ x < 256) (hw0 : ∀ y ∈ l0, 0 ≤ y ∧ y < 256)
    (K : Nat) (r1 : List Int) (r2 : Int) (hf1 : PA.octet_Unhex.f K t = some (r1, r2)) (hf2 : PU.ciboriumref01_Unhex.f K t = some (r1, r2)) (hr1 : r1.length ≤ 1000000) (hrr : ∀ y ∈ r1, 0 ≤ y ∧ y < 256) (hback : r2 = 0 → strOfNums (Hex.hexL r1) = t) (he : readE r1 r2 ≠ 0) :
    Calls Try.prog 7 #[.agg #[.int .u8 x, .slice A0 l0.length c0], .string t] w fun e w' => e = .returned (.bool true) ∧ Below w.heap.size w w' := by
  have FT := Lib.hid (text_f x l0 hx hw0 (by omega))
  have FR := Lib.hid (refText_f x l0 hx hw0 (by omega))
  have hts : (txt x l0).size = 2 * l0.length + 2 := txt_size x l0
  have F3 : Hid (PA.octet_Unhex.f (4 * (x :: l0).length + 10) (txt x l0) = some (x :: l0, 0)) := PureOne.unhex_back (x :: l0) (fun y hy => by
    rcases List.mem_cons.1 hy with rfl | hy
    · exact hx
    · exact hw0 y hy) (by rw [List.length_cons]; omega) _ (Nat.le_refl _)
  have HBAD : Hid (x = 0 ∨ 1024 < l0.length → readE (x :: l0) 0 ≠ 0) := read_back_bad x l0
  have HGOOD : Hid (x ≠ 0 → l0.length ≤ 1024 → readE (x :: l0) 0 = 0 ∧ readX (x :: l0) 0 = x ∧ readY (x :: l0) 0 = l0) := read_back x l0
  have HL3 : Hid ((x :: l0).length ≤ 1000000) := by show _ ≤ _; rw [List.length_cons]; omega
  have R1 := Lib.hid (ShRead.read_calls t r1 r2 K · hf1 hr1)
  have R2 := Lib.hid (ShRead.refRead_calls t r1 r2 K · hf2 hr1)
  have R3 := Lib.hid (ShRead.read_calls (txt x l0) (x :: l0) 0 _ · F3.out HL3.out)

  have HY1 := readY_len r1 r2
  have HC0 := Lib.hid hr0
  clear hr0 hf1 hf2 hr1 hrr hback hx hw0 F3 HL3
  generalize hT : txt x l0 = T at *
  clear hT
  generalize readX (x :: l0) 0 = x3 at *
  generalize readY (x :: l0) 0 = y3 at *
  generalize readE (x :: l0) 0 = e3 at *
  generalize readX r1 r2 = x1 at *
  generalize readY r1 r2 = y1 at *
  generalize readE r1 r2 = e1 at *
  have hez : (e1 == 0) = false := beq_eq_false_iff_ne.mpr he
  clear he
  go_enter Try.func7, Try.ntmps7
  have HX0 := Lib.hid (Blk.Is.new w #[.int .u8 x, .slice A0 l0.length c0] 44)
  have HB0 : Hid (Below w.heap.size w (w.alloc (.cells #[.int .u8 x, .slice A0 l0.length c0] 44))) := (Below.refl w.heap.size w).alloc (Nat.le_refl _) _
  go_wp2_with fail
  have HA0 := Lib.hid (Kd.C_below HC0.out HB0.out)
  obtain ⟨W0, hW0⟩ : ∃ W0, W0 = w.alloc (.cells #[.int .u8 x, .slice A0 l0.length c0] 44) := ⟨_, rfl⟩
  rw [← hW0] at HX0 HB0 HA0 ⊢
  clear hW0 HC0
  refine (Room.roomy_calls A0 c0 l0 _ HA0.out hc0 (by omega)).mono ?_
  rintro e w1 ⟨v5, rfl, hR, hb⟩
  have HS1 : Hid (St w w1 v5 l0 A0 x c0) := ⟨Room.Is.lowT hR HB0.out.size, Kd.C_below HA0.out hb, HX0.out.below hb HX0.out.lt, HB0.out.trans (hb.mono HB0.out.size)⟩
  clear hR hb HX0 HA0 HB0
  obtain ⟨A5, c5, rfl, hc5, hC5⟩ := HS1.out.s.reads
  have H5 := Lib.hid hC5
  clear hC5
  have b0 := HS1.out.x0
  have b1 := HS1.out.x1
  go_wp2_with fail
  refine (share_Text.calls x A5 c5 l0 T _ H5.out hc5 FT.out).mono ?_
  rintro e w2 ⟨rfl, hb⟩
  have HS2 := Lib.hid (HS1.out.step hb)
  clear hb HS1 b0 b1 H5 FT
  have b0 := HS2.out.x0
  have b1 := HS2.out.x1
  go_wp2_with fail
  refine (ciboriumref04_Text.calls _ x A0 c0 l0 T _ HS2.out.p0 hc0 FR.out).mono ?_
  rintro e w3 ⟨rfl, hb⟩
  have HS3 := Lib.hid (HS2.out.step hb)
  clear hb HS2 b0 b1 FR
  have b0 := HS3.out.x0
  have b1 := HS3.out.x1
  go_wp2_with fail
  refine (Room.kept_calls w.heap.size _ A0 c0 l0 _ HS3.out.s HS3.out.p0 hc0).mono ?_
  rintro e w4 ⟨rfl, n4, rfl⟩
  have HS4 := Lib.hid (HS3.out.step (pw_below_drewN (Below.refl _ w3) n4))
  clear HS3 b0 b1
  generalize w3.drewN n4 = w4 at *
  go_wp2_with fail
  refine (R1.out _).mono ?_
  rintro e w5 ⟨A7, c7, rfl, hc7, hC7, hb⟩
  have H7 := Lib.hid hC7
  have HS5 := Lib.hid (HS4.out.step hb)
  clear hb HS4 hC7 R1
  go_wp2_with fail
  have HI7 := Lib.hid (Blk.Is.new w5 #[.int .u8 x1, .slice A7 y1.length c7] 44)
  have hb7 : Below w5.heap.size w5 (w5.alloc (.cells #[.int .u8 x1, .slice A7 y1.length c7] 44)) := (Below.refl _ _).alloc (Nat.le_refl _) _
  have HS6 := Lib.hid (HS5.out.step hb7)
  have H76 := Lib.hid (Kd.C_below H7.out hb7)
  generalize w5.alloc (.cells #[.int .u8 x1, .slice A7 y1.length c7] 44) = w6 at *
  generalize w5.heap.size = g7 at *
  clear hb7 HS5 H7
  refine (R2.out _).mono ?_
  rintro e w7 ⟨A9, c9, rfl, hc9, hC9, hb⟩
  have HI77 := Lib.hid (HI7.out.below hb HI7.out.lt)
  have HS7 := Lib.hid (HS6.out.step hb)
  have H77 := Lib.hid (Kd.C_below H76.out hb)
  have H9 := Lib.hid hC9
  clear hb hC9 HI7 HS6 H76 R2
  have HI9 := Lib.hid (Blk.Is.new w7 #[.int .u8 x1, .slice A9 y1.length c9] 44)
  have hb9 : Below w7.heap.size w7 (w7.alloc (.cells #[.int .u8 x1, .slice A9 y1.length c9] 44)) := (Below.refl _ _).alloc (Nat.le_refl _) _
  have HS8 := Lib.hid (HS7.out.step hb9)
  have H78 := Lib.hid (Kd.C_below H77.out hb9)
  have H98 := Lib.hid (Kd.C_below H9.out hb9)
  have HI78 := Lib.hid (HI77.out.below hb9 HI77.out.lt)
  clear hb9 HS7 H77 H9 HI77
  have a0 : (w7.alloc (.cells #[.int .u8 x1, .slice A9 y1.length c9] 44)).cell? ⟨g7, 0, none⟩ = some (.int .u8 x1) := HI78.out.cell 0
  have a1 : (w7.alloc (.cells #[.int .u8 x1, .slice A9 y1.length c9] 44)).cell? ⟨g7, 1, none⟩ = some (.slice A7 y1.length c7) := HI78.out.cell 1
  go_wp2_with fail
  generalize w7.alloc (.cells #[.int .u8 x1, .slice A9 y1.length c9] 44) = w8 at *
  generalize w7.heap.size = g9 at *
  clear a0 a1
  refine (PA.ciboriumref00_EqBytes.calls A7 c7 y1 A9 c9 y1 true _ H78.out hc7 H98.out hc9 (eq_f y1)).mono ?_
  rintro e w9 ⟨rfl, n9, rfl⟩
  have hb10 := pw_below_drewN (Below.refl w8.heap.size w8) n9
  have HI710 := Lib.hid (HI78.out.below hb10 HI78.out.lt)
  have HS10 := Lib.hid (HS8.out.step hb10)
  have H710 := Lib.hid (Kd.C_below H78.out hb10)
  clear hb10 HS8 H78 H98 HI78
  generalize w8.drewN n9 = w10 at *
  have a0 : w10.cell? ⟨g7, 0, none⟩ = some (.int .u8 x1) := HI710.out.cell 0
  have a1 : w10.cell? ⟨g7, 1, none⟩ = some (.slice A7 y1.length c7) := HI710.out.cell 1
  go_wp2_with fail
  have HS11 := HS10
  clear HS10 a0 a1 H710 HI710
  refine (R3.out _).mono ?_
  rintro e w12 ⟨A11, c11, rfl, hc11, hC11, hb⟩
  have HS12 := Lib.hid (HS11.out.step hb)
  have H11 := Lib.hid hC11
  clear hb HS11 R3 hC11
  have HI11 := Lib.hid (Blk.Is.new w12 #[.int .u8 x3, .slice A11 y3.length c11] 44)
  have hb13 : Below w12.heap.size w12 (w12.alloc (.cells #[.int .u8 x3, .slice A11 y3.length c11] 44)) := (Below.refl _ _).alloc (Nat.le_refl _) _
  have HS13 := Lib.hid (HS12.out.step hb13)
  have H13 := Lib.hid (Kd.C_below H11.out hb13)
  clear hb13 HS12 H11
  have b0 := HS13.out.x0
  have b1 := HS13.out.x1
  by_cases hx0 : x = 0
  · have hne : (e3 == 0) = false := beq_eq_false_iff_ne.mpr (HBAD.out (.inl hx0))
    have hne2 : (e3 != 0) = true := bne_iff_ne.mpr (HBAD.out (.inl hx0))
    have hxb : (x == 0) = true := beq_iff_eq.mpr hx0
    clear HBAD HGOOD hx0
    go_wp2_with fail
    refine (Works4.works _).mono ?_
    rintro e w14 ⟨rfl, hb⟩
    have HB := Lib.hid (HS13.out.below.trans (hb.mono HS13.out.below.size))
    clear hb
    go_wp2
    go_ret
    exact ⟨rfl, HB.out⟩
  · have hxb : (x == 0) = false := beq_eq_false_iff_ne.mpr hx0
    by_cases hlong : 1024 < l0.length
    · have hne : (e3 == 0) = false := beq_eq_false_iff_ne.mpr (HBAD.out (.inr hlong))
      have hne2 : (e3 != 0) = true := bne_iff_ne.mpr (HBAD.out (.inr hlong))
      clear HBAD HGOOD hx0
      go_wp2_with fail
      refine (Works4.works _).mono ?_
      rintro e w14 ⟨rfl, hb⟩
      have HB := Lib.hid (HS13.out.below.trans (hb.mono HS13.out.below.size))
      clear hb
      go_wp2
      go_ret
      exact ⟨rfl, HB.out⟩
    · obtain ⟨q1, q2, q3⟩ := HGOOD.out hx0 (by omega)
      subst q1
      subst q2
      subst q3
      clear HBAD HGOOD hx0
      go_wp2_with fail
      refine (PA.ciboriumref00_EqBytes.calls A11 c11 _ A0 c0 _ true _ H13.out hc11 HS13.out.p0 hc0 (eq_f _)).mono ?_
      rintro e w14 ⟨rfl, n14, rfl⟩
      have HS14 := Lib.hid (HS13.out.step (pw_below_drewN (Below.refl _ _) n14))
      clear HS13 H13
      go_wp2_with fail
      refine (Works4.works _).mono ?_
      rintro e w15 ⟨rfl, hb⟩
      have HB := Lib.hid (HS14.out.below.trans (hb.mono HS14.out.below.size))
      clear hb
      go_wp2
      go_ret
      exact ⟨rfl, HB.out⟩

set_option maxHeartbeats 4000000 in
theorem law_ok (x : Int) (A0 : Option Addr) (c0 : Nat) (l0 : List Int) (t : ByteArray) (w : World) (hr0 : Kd.C (Kd.int .u8) w A0 l0.length l0) (hc0 : l0.length ≤ c0) (hl0 : l0.length ≤ 8192) (hs : t.size ≤ 16384) (hx : 0 ≤ x ∧ x < 256) (hw0 : ∀ y ∈ l0, 0 ≤ y ∧ y < 256)
    (K : Nat) (r1 : List Int) (r2 : Int) (hf1 : PA.octet_Unhex.f K t = some (r1, r2)) (hf2 : PU.ciboriumref01_Unhex.f K t = some (r1, r2)) (hr1 : r1.length ≤ 1000000) (hrr : ∀ y ∈ r1, 0 ≤ y ∧ y < 256) (hback : r2 = 0 → strOfNums (Hex.hexL r1) = t) (he : readE r1 r2 = 0) :
    Calls Try.prog 7 #[.agg #[.int .u8 x, .slice A0 l0.length c0], .string t] w fun e w' => e = .returned (.bool true) ∧ Below w.heap.size w w' := by
  have FT := Lib.hid (text_f x l0 hx hw0 (by omega))
  have FR := Lib.hid (refText_f x l0 hx hw0 (by omega))
  have hts : (txt x l0).size = 2 * l0.length + 2 := txt_size x l0
  have F3 : Hid (PA.octet_Unhex.f (4 * (x :: l0).length + 10) (txt x l0) = some (x :: l0, 0)) := PureOne.unhex_back (x :: l0) (fun y hy => by
    rcases List.mem_cons.1 hy with rfl | hy
    · exact hx
    · exact hw0 y hy) (by rw [List.length_cons]; omega) _ (Nat.le_refl _)
  have HBAD : Hid (x = 0 ∨ 1024 < l0.length → readE (x :: l0) 0 ≠ 0) := read_back_bad x l0
  have HGOOD : Hid (x ≠ 0 → l0.length ≤ 1024 → readE (x :: l0) 0 = 0 ∧ readX (x :: l0) 0 = x ∧ readY (x :: l0) 0 = l0) := read_back x l0
  have HL3 : Hid ((x :: l0).length ≤ 1000000) := by show _ ≤ _; rw [List.length_cons]; omega
  have R1 := Lib.hid (ShRead.read_calls t r1 r2 K · hf1 hr1)
  have R2 := Lib.hid (ShRead.refRead_calls t r1 r2 K · hf2 hr1)
  have R3 := Lib.hid (ShRead.read_calls (txt x l0) (x :: l0) 0 _ · F3.out HL3.out)
  have hro := read_ok r1 r2 he
  have HOK : Hid (share_Text.f (readX r1 r2) (readY r1 r2) = some t) := by
    have h := text_f (readX r1 r2) (readY r1 r2) (readX_range r1 r2 hrr) (readY_range r1 r2 hrr) (by have := readY_len r1 r2; omega)
    have e : txt (readX r1 r2) (readY r1 r2) = t := by unfold txt; rw [hro.2]; exact hback hro.1
    rw [e] at h
    exact h
  clear hro
  have HY1 := readY_len r1 r2
  have HC0 := Lib.hid hr0
  clear hr0 hf1 hf2 hr1 hrr hback hx hw0 F3 HL3
  generalize hT : txt x l0 = T at *
  clear hT
  generalize readX (x :: l0) 0 = x3 at *
  generalize readY (x :: l0) 0 = y3 at *
  generalize readE (x :: l0) 0 = e3 at *
  generalize readX r1 r2 = x1 at *
  generalize readY r1 r2 = y1 at *
  generalize readE r1 r2 = e1 at *
  subst he
  go_enter Try.func7, Try.ntmps7
  have HX0 := Lib.hid (Blk.Is.new w #[.int .u8 x, .slice A0 l0.length c0] 44)
  have HB0 : Hid (Below w.heap.size w (w.alloc (.cells #[.int .u8 x, .slice A0 l0.length c0] 44))) := (Below.refl w.heap.size w).alloc (Nat.le_refl _) _
  go_wp2_with fail
  have HA0 := Lib.hid (Kd.C_below HC0.out HB0.out)
  obtain ⟨W0, hW0⟩ : ∃ W0, W0 = w.alloc (.cells #[.int .u8 x, .slice A0 l0.length c0] 44) := ⟨_, rfl⟩
  rw [← hW0] at HX0 HB0 HA0 ⊢
  clear hW0 HC0
  refine (Room.roomy_calls A0 c0 l0 _ HA0.out hc0 (by omega)).mono ?_
  rintro e w1 ⟨v5, rfl, hR, hb⟩
  have HS1 : Hid (St w w1 v5 l0 A0 x c0) := ⟨Room.Is.lowT hR HB0.out.size, Kd.C_below HA0.out hb, HX0.out.below hb HX0.out.lt, HB0.out.trans (hb.mono HB0.out.size)⟩
  clear hR hb HX0 HA0 HB0
  obtain ⟨A5, c5, rfl, hc5, hC5⟩ := HS1.out.s.reads
  have H5 := Lib.hid hC5
  clear hC5
  have b0 := HS1.out.x0
  have b1 := HS1.out.x1
  go_wp2_with fail
  refine (share_Text.calls x A5 c5 l0 T _ H5.out hc5 FT.out).mono ?_
  rintro e w2 ⟨rfl, hb⟩
  have HS2 := Lib.hid (HS1.out.step hb)
  clear hb HS1 b0 b1 H5 FT
  have b0 := HS2.out.x0
  have b1 := HS2.out.x1
  go_wp2_with fail
  refine (ciboriumref04_Text.calls _ x A0 c0 l0 T _ HS2.out.p0 hc0 FR.out).mono ?_
  rintro e w3 ⟨rfl, hb⟩
  have HS3 := Lib.hid (HS2.out.step hb)
  clear hb HS2 b0 b1 FR
  have b0 := HS3.out.x0
  have b1 := HS3.out.x1
  go_wp2_with fail
  refine (Room.kept_calls w.heap.size _ A0 c0 l0 _ HS3.out.s HS3.out.p0 hc0).mono ?_
  rintro e w4 ⟨rfl, n4, rfl⟩
  have HS4 := Lib.hid (HS3.out.step (pw_below_drewN (Below.refl _ w3) n4))
  clear HS3 b0 b1
  generalize w3.drewN n4 = w4 at *
  go_wp2_with fail
  refine (R1.out _).mono ?_
  rintro e w5 ⟨A7, c7, rfl, hc7, hC7, hb⟩
  have H7 := Lib.hid hC7
  have HS5 := Lib.hid (HS4.out.step hb)
  clear hb HS4 hC7 R1
  go_wp2_with fail
  have HI7 := Lib.hid (Blk.Is.new w5 #[.int .u8 x1, .slice A7 y1.length c7] 44)
  have hb7 : Below w5.heap.size w5 (w5.alloc (.cells #[.int .u8 x1, .slice A7 y1.length c7] 44)) := (Below.refl _ _).alloc (Nat.le_refl _) _
  have HS6 := Lib.hid (HS5.out.step hb7)
  have H76 := Lib.hid (Kd.C_below H7.out hb7)
  generalize w5.alloc (.cells #[.int .u8 x1, .slice A7 y1.length c7] 44) = w6 at *
  generalize w5.heap.size = g7 at *
  clear hb7 HS5 H7
  refine (R2.out _).mono ?_
  rintro e w7 ⟨A9, c9, rfl, hc9, hC9, hb⟩
  have HI77 := Lib.hid (HI7.out.below hb HI7.out.lt)
  have HS7 := Lib.hid (HS6.out.step hb)
  have H77 := Lib.hid (Kd.C_below H76.out hb)
  have H9 := Lib.hid hC9
  clear hb hC9 HI7 HS6 H76 R2
  have HI9 := Lib.hid (Blk.Is.new w7 #[.int .u8 x1, .slice A9 y1.length c9] 44)
  have hb9 : Below w7.heap.size w7 (w7.alloc (.cells #[.int .u8 x1, .slice A9 y1.length c9] 44)) := (Below.refl _ _).alloc (Nat.le_refl _) _
  have HS8 := Lib.hid (HS7.out.step hb9)
  have H78 := Lib.hid (Kd.C_below H77.out hb9)
  have H98 := Lib.hid (Kd.C_below H9.out hb9)
  have HI78 := Lib.hid (HI77.out.below hb9 HI77.out.lt)
  clear hb9 HS7 H77 H9 HI77
  have a0 : (w7.alloc (.cells #[.int .u8 x1, .slice A9 y1.length c9] 44)).cell? ⟨g7, 0, none⟩ = some (.int .u8 x1) := HI78.out.cell 0
  have a1 : (w7.alloc (.cells #[.int .u8 x1, .slice A9 y1.length c9] 44)).cell? ⟨g7, 1, none⟩ = some (.slice A7 y1.length c7) := HI78.out.cell 1
  go_wp2_with fail
  generalize w7.alloc (.cells #[.int .u8 x1, .slice A9 y1.length c9] 44) = w8 at *
  generalize w7.heap.size = g9 at *
  clear a0 a1
  refine (PA.ciboriumref00_EqBytes.calls A7 c7 y1 A9 c9 y1 true _ H78.out hc7 H98.out hc9 (eq_f y1)).mono ?_
  rintro e w9 ⟨rfl, n9, rfl⟩
  have hb10 := pw_below_drewN (Below.refl w8.heap.size w8) n9
  have HI710 := Lib.hid (HI78.out.below hb10 HI78.out.lt)
  have HS10 := Lib.hid (HS8.out.step hb10)
  have H710 := Lib.hid (Kd.C_below H78.out hb10)
  clear hb10 HS8 H78 H98 HI78
  generalize w8.drewN n9 = w10 at *
  have a0 : w10.cell? ⟨g7, 0, none⟩ = some (.int .u8 x1) := HI710.out.cell 0
  have a1 : w10.cell? ⟨g7, 1, none⟩ = some (.slice A7 y1.length c7) := HI710.out.cell 1
  go_wp2_with fail
  refine (share_Text.calls x1 A7 c7 y1 t _ H710.out hc7 HOK.out).mono ?_
  rintro e w11 ⟨rfl, hb⟩
  have HS11 := Lib.hid (HS10.out.step hb)
  clear HS10 a0 a1 H710 HI710 HOK hb
  go_wp2_with fail
  refine (R3.out _).mono ?_
  rintro e w12 ⟨A11, c11, rfl, hc11, hC11, hb⟩
  have HS12 := Lib.hid (HS11.out.step hb)
  have H11 := Lib.hid hC11
  clear hb HS11 R3 hC11
  have HI11 := Lib.hid (Blk.Is.new w12 #[.int .u8 x3, .slice A11 y3.length c11] 44)
  have hb13 : Below w12.heap.size w12 (w12.alloc (.cells #[.int .u8 x3, .slice A11 y3.length c11] 44)) := (Below.refl _ _).alloc (Nat.le_refl _) _
  have HS13 := Lib.hid (HS12.out.step hb13)
  have H13 := Lib.hid (Kd.C_below H11.out hb13)
  clear hb13 HS12 H11
  have b0 := HS13.out.x0
  have b1 := HS13.out.x1
  by_cases hx0 : x = 0
  · have hne : (e3 == 0) = false := beq_eq_false_iff_ne.mpr (HBAD.out (.inl hx0))
    have hne2 : (e3 != 0) = true := bne_iff_ne.mpr (HBAD.out (.inl hx0))
    have hxb : (x == 0) = true := beq_iff_eq.mpr hx0
    clear HBAD HGOOD hx0
    go_wp2_with fail
    refine (Works4.works _).mono ?_
    rintro e w14 ⟨rfl, hb⟩
    have HB := Lib.hid (HS13.out.below.trans (hb.mono HS13.out.below.size))
    clear hb
    go_wp2
    go_ret
    exact ⟨rfl, HB.out⟩
  · have hxb : (x == 0) = false := beq_eq_false_iff_ne.mpr hx0
    by_cases hlong : 1024 < l0.length
    · have hne : (e3 == 0) = false := beq_eq_false_iff_ne.mpr (HBAD.out (.inr hlong))
      have hne2 : (e3 != 0) = true := bne_iff_ne.mpr (HBAD.out (.inr hlong))
      clear HBAD HGOOD hx0
      go_wp2_with fail
      refine (Works4.works _).mono ?_
      rintro e w14 ⟨rfl, hb⟩
      have HB := Lib.hid (HS13.out.below.trans (hb.mono HS13.out.below.size))
      clear hb
      go_wp2
      go_ret
      exact ⟨rfl, HB.out⟩
    · obtain ⟨q1, q2, q3⟩ := HGOOD.out hx0 (by omega)
      subst q1
      subst q2
      subst q3
      clear HBAD HGOOD hx0
      go_wp2_with fail
      refine (PA.ciboriumref00_EqBytes.calls A11 c11 _ A0 c0 _ true _ H13.out hc11 HS13.out.p0 hc0 (eq_f _)).mono ?_
      rintro e w14 ⟨rfl, n14, rfl⟩
      have HS14 := Lib.hid (HS13.out.step (pw_below_drewN (Below.refl _ _) n14))
      clear HS13 H13
      go_wp2_with fail
      refine (Works4.works _).mono ?_
      rintro e w15 ⟨rfl, hb⟩
      have HB := Lib.hid (HS14.out.below.trans (hb.mono HS14.out.below.size))
      clear hb
      go_wp2
      go_ret
      exact ⟨rfl, HB.out⟩

theorem law (x : Int) (A0 : Option Addr) (c0 : Nat) (l0 : List Int) (t : ByteArray) (w : World) (hr0 : Kd.C (Kd.int .u8) w A0 l0.length l0) (hc0 : l0.length ≤ c0) (hm0 : l0.length ≤ 9223372036854775807) (hms : t.size ≤ 9223372036854775807) (hx : 0 ≤ x ∧ x < 256) (hw0 : ∀ y ∈ l0, 0 ≤ y ∧ y < 256) :
    Calls Try.prog 7 #[.agg #[.int .u8 x, .slice A0 l0.length c0], .string t] w fun e w' => e = .returned (.bool true) ∧ Below w.heap.size w w' := by
  by_cases hfar : 8192 < l0.length ∨ 16384 < t.size
  · exact law_far x A0 c0 l0.length t w hfar hm0 hms
  · obtain ⟨r1, r2, K, h1, h2, h3, h4, h5⟩ := PureOne.unhex_all t (by omega)
    have hback : r2 = 0 → strOfNums (Hex.hexL r1) = t := fun e => by
      rcases h5 with h | h
      · exact h.2
      · exact absurd e h.1
    by_cases he : readE r1 r2 = 0
    · exact law_ok x A0 c0 l0 t w hr0 hc0 (by omega) (by omega) hx hw0 K r1 r2 h1 h2 h3 h4 hback he
    · exact law_err x A0 c0 l0 t w hr0 hc0 (by omega) (by omega) hx hw0 K r1 r2 h1 h2 h3 h4 hback he
end Go.Proofs.Ytglnepokollijaa.HShareTexts
