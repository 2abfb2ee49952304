/- It is proved here that the law OctetWrites, called with any bytes, number and text, answers true and leaves what was there alone. No condition. -/
import Derived.Test.YtengdchgfhcdhaaWorks
import Derived.Test.YtengdchgfhcdhaaRoom
import Derived.Test.YtengdchgfhcdhaaApart4
import Derived.Test.YtengdchgfhcdhaaPBx
namespace Go.Proofs.Ytengdchgfhcdhaa.HOctetWrites
set_option linter.unusedVariables false
set_option linter.unusedSimpArgs false
open Go.RowKit Go.Proofs.Ytengdchgfhcdhaa.Row Go.Proofs.YtengdchgfhcdhaaW.PrintWords Go.Proofs.YtengdchgfhcdhaaW.PrintLast Go.Proofs.YtengdchgfhcdhaaW.PrintMore

theorem law_far (A0 : Option Addr) (c0 n : Nat) (a1 : Int) (a2 : ByteArray) (w : World) (h : 131072 < n ∨ 131072 < a2.size) (hm : n ≤ 9223372036854775807) (hm2 : a2.size ≤ 140737488351232) :
    Calls Try.prog 3 #[.slice A0 n c0, .int .u64 a1, .string a2] w fun e w' => e = .returned (.bool true) ∧ Below w.heap.size w w' := by
  by_cases h1 : 131072 < n
  · go_enter Try.func3, Try.ntmps3
    go_wp2_with fail
    refine (Works.works _).mono ?_
    rintro e w1 ⟨rfl, hb⟩
    go_wp2
    go_ret
    exact ⟨rfl, hb⟩
  · have h2 : 131072 < a2.size := h.resolve_left h1
    go_enter Try.func3, Try.ntmps3
    go_wp2_with fail
    refine (Works.works _).mono ?_
    rintro e w1 ⟨rfl, hb⟩
    go_wp2
    go_ret
    exact ⟨rfl, hb⟩

/-! Numbers as bytes. -/
theorem shr_at (v : Int) (i : Nat) (hi : i < 8) : shr .u64 v (8 * (i : Int)) = v / 256 ^ i := by
  have h := shr_small (k := .u64) (x := v) (y := 8 * (i : Int)) rfl (by show 8 * (i : Int) ≤ 64; omega)
  rw [← h, show (8 * (i : Int)).toNat = 8 * i by omega, Int.pow_mul]
  rfl
theorem rput_l (v : Int) (s : Nat) (hs : s ≤ 8) : ∀ (acc : List Int), acc.length + s ≤ 1000000 → ∀ k, s + 1 ≤ k → PA.ciboriumref01_Put.l0 k v acc ((s : Int) - 1) = some (acc ++ Put.be v s) := by
  induction s with
  | zero =>
    intro acc ha k hk
    obtain ⟨k, rfl⟩ : ∃ k', k = k' + 1 := ⟨k - 1, by omega⟩
    rw [PA.ciboriumref01_Put.l0, if_neg (by decide)]
    simp [Put.be]
  | succ s ih =>
    intro acc ha k hk
    obtain ⟨k, rfl⟩ : ∃ k', k = k' + 1 := ⟨k - 1, by omega⟩
    have e1 : ((s + 1 : Nat) : Int) - 1 = (s : Int) := by omega
    have hw : wrap64 (8 * (s : Int)) = 8 * (s : Int) := IntWalk.wrap64_in _ (by omega)
    have hw2 : wrap64 ((s : Int) - 1) = (s : Int) - 1 := IntWalk.wrap64_in _ (by omega)
    rw [PA.ciboriumref01_Put.l0, e1, hw, hw2, if_pos (by omega), if_pos (by omega), if_pos (by omega), shr_at v s (by omega), ih (by omega) _ (by rw [List.length_append, List.length_singleton]; omega) k (by omega), Put.be_cons, List.append_assoc]
    rfl
theorem rput_f (l0 : List Int) (v : Int) (hl : l0.length ≤ 131072) (s : Nat) (hs : s ≤ 8) (k : Nat) (hk : 10 ≤ k) : PA.ciboriumref01_Put.f k l0 v (s : Int) = some (l0 ++ Put.be v s) := by
  have hw : wrap64 ((s : Int) - 1) = (s : Int) - 1 := IntWalk.wrap64_in _ (by omega)
  unfold PA.ciboriumref01_Put.f
  rw [if_pos (by rw [List.length_nil]; omega), hw, rput_l v s hs _ (by rw [List.nil_append]; omega) k (by omega)]
  rfl
theorem be_wrap (v : Int) (h : 0 ≤ v) (s : Nat) : Put.be (v % 256 ^ s) s = Put.be v s := by
  induction s generalizing v with
  | zero => rfl
  | succ s ih =>
    have hp : (0 : Int) < 256 ^ s := Int.pow_pos (by decide)
    rw [Put.be, Put.be, Int.pow_succ, Int.mul_comm, Int.emod_emod_of_dvd _ (Int.dvd_mul_right 256 _)]
    have : v % (256 * 256 ^ s) / 256 = (v / 256) % 256 ^ s := by
      have e1 := Int.mul_ediv_add_emod v (256 * 256 ^ s)
      have e2 := Int.emod_nonneg v (show (256 * 256 ^ s : Int) ≠ 0 by omega)
      have e3 : v / 256 / 256 ^ s = v / (256 * 256 ^ s) := Int.ediv_ediv_of_nonneg (by decide)
      have e4 : v / 256 = (v % (256 * 256 ^ s)) / 256 + 256 ^ s * (v / (256 * 256 ^ s)) := by
        conv => lhs; rw [← e1, Int.mul_assoc, Int.add_comm, Int.add_mul_ediv_left _ _ (by decide)]
      have e5 := Int.emod_lt_of_pos v (show (0 : Int) < 256 * 256 ^ s by omega)
      have e6 : 0 ≤ v % (256 * 256 ^ s) / 256 := by omega
      have e7 : v % (256 * 256 ^ s) / 256 < 256 ^ s := Int.ediv_lt_of_lt_mul (by decide) (by rw [Int.mul_comm (256 ^ s) 256]; exact e5)
      rw [e4, Int.add_mul_emod_self_left, Int.emod_eq_of_lt e6 e7]
    rw [this, ih (v / 256) (by omega)]
theorem p16_f (l0 : List Int) (v : Int) (hl : l0.length ≤ 131072) (h0 : 0 ≤ v) : Put.P16.f l0 (IntKind.u16.wrap v) = some (l0 ++ Put.be v 2) := by
  have e : IntKind.u16.wrap v = v % 256 ^ 2 := rfl
  unfold Put.P16.f
  rw [e, if_pos ⟨by omega, by omega⟩, be_wrap v h0]
theorem p32_f (l0 : List Int) (v : Int) (hl : l0.length ≤ 131072) (h0 : 0 ≤ v) : Put.P32.f l0 (IntKind.u32.wrap v) = some (l0 ++ Put.be v 4) := by
  have e : IntKind.u32.wrap v = v % 256 ^ 4 := rfl
  unfold Put.P32.f
  rw [e, if_pos ⟨by omega, by omega⟩, be_wrap v h0]
theorem p64_f (l0 : List Int) (v : Int) (hl : l0.length ≤ 131072) (h0 : 0 ≤ v) : Put.P64.f l0 v = some (l0 ++ Put.be v 8) := by
  unfold Put.P64.f
  rw [if_pos ⟨by omega, h0⟩]
theorem bytesOf_len (s : ByteArray) : (bytesOf s).length = s.size := by unfold bytesOf; rw [List.length_map, Array.length_toList]; rfl
theorem text_f (l0 : List Int) (s : ByteArray) (hl : l0.length ≤ 131072) (hs : s.size ≤ 131072) : ∃ (rt : List Int) (re : Int), PB.octet_PutText.f l0 s = some (rt, re) ∧ PA.ciboriumref01_PutText.f 12 l0 s = some (rt, re) ∧ rt.length ≤ 1000000 := by
  unfold PB.octet_PutText.f PA.ciboriumref01_PutText.f
  by_cases h : (s.size : Int) > 65535
  · exact ⟨[], 3, by rw [if_pos h], by rw [if_pos h], by decide⟩
  · refine ⟨l0 ++ Put.be (s.size : Int) 2 ++ bytesOf s, 0, ?_, ?_, ?_⟩
    · rw [if_neg h]
      have h16 : PB.octet_Put16.f l0 (IntKind.u16.wrap ((s.size : Int))) = some (l0 ++ Put.be (s.size : Int) 2) := p16_f l0 (s.size : Int) hl (by omega)
      rw [h16, Option.bind_some, if_pos (by rw [List.length_append, Put.be_length]; omega)]
    · have hw : IntKind.u64.wrap ((s.size : Int)) = (s.size : Int) := by
        show (s.size : Int) % 18446744073709551616 = _
        omega
      have := rput_f l0 (s.size : Int) hl 2 (by decide) 12 (by decide)
      rw [if_neg h, hw]
      rw [show ((2 : Nat) : Int) = 2 from rfl] at this
      rw [this, Option.bind_some, if_pos (by rw [List.length_append, Put.be_length]; omega)]
    · rw [List.length_append, List.length_append, Put.be_length, bytesOf_len]
      omega

/-- Five rows. -/
def five (a b c d e : Value) : Nat → Value := fun q => [a, b, c, d, e].getD q a
theorem five_rows (a b c d e : Value) : Apart.rows 5 (five a b c d e) = [a, b, c, d, e] := rfl
def fiveL (a b c d e : List Int) : Nat → List Int := fun q => [a, b, c, d, e].getD q a
theorem five_un {a b c d e : Value} {n0 n1 n2 n3 n4 n5 : Nat} (ha : ∀ k, a.ownBlock = some k → n1 ≤ k ∧ k < n2) (hb : ∀ k, b.ownBlock = some k → n0 ≤ k ∧ k < n1) (hc : ∀ k, c.ownBlock = some k → n2 ≤ k ∧ k < n3) (hd : ∀ k, d.ownBlock = some k → n3 ≤ k ∧ k < n4) (he : ∀ k, e.ownBlock = some k → n4 ≤ k ∧ k < n5) (h2 : n1 ≤ n2) (h3 : n2 ≤ n3) (h4 : n3 ≤ n4) :
    ∀ p q, p < 5 → q < 5 → p ≠ q → ∀ k, (five a b c d e p).ownBlock = some k → (five a b c d e q).ownBlock ≠ some k := by
  intro p q hp hq hne k h1 h2
  have ka := ha k
  have kb := hb k
  have kc := hc k
  have kd := hd k
  have ke := he k
  rcases (show p = 0 ∨ p = 1 ∨ p = 2 ∨ p = 3 ∨ p = 4 by omega) with rfl | rfl | rfl | rfl | rfl <;> rcases (show q = 0 ∨ q = 1 ∨ q = 2 ∨ q = 3 ∨ q = 4 by omega) with rfl | rfl | rfl | rfl | rfl <;> simp only [five, List.getD_eq_getElem?_getD, List.getElem?_cons_zero, List.getElem?_cons_succ, Option.getD_some] at h1 h2 <;> first
    | exact absurd rfl hne
    | (first | have k1 := ka h1 | have k1 := kb h1 | have k1 := kc h1 | have k1 := kd h1 | have k1 := ke h1) <;> (first | have k2 := ka h2 | have k2 := kb h2 | have k2 := kc h2 | have k2 := kd h2 | have k2 := ke h2) <;> omega
theorem _root_.Go.Proofs.Ytengdchgfhcdhaa.Room.Is.row {W : World} {base : Nat} {v : Value} {l : List Int} (h : Room.Is W base v l) : Row.Is W base v l := by
  obtain ⟨g, cap, e, hc, ho⟩ := h
  have h1 : Row.Is W base (.slice (some ⟨g, 0, none⟩) (l.length + 7) cap) (l ++ Room.tail7) := by
    unfold Row.Is
    rw [show (l ++ Room.tail7).length = l.length + 7 by simp [Room.tail7]]
    exact ho
  rw [e]
  exact h1.take
/-- What stands so far. -/
structure S5 (w W : World) (v7 v8 v9 v10 v11 : Value) (l0 l8 l9 l10 l11 : List Int) (A0 : Option Addr) : Prop where
  room : Room.Is W w.heap.size v7 l0
  r8 : Row.Is W w.heap.size v8 l8
  r9 : Row.Is W w.heap.size v9 l9
  r10 : Row.Is W w.heap.size v10 l10
  r11 : Row.Is W w.heap.size v11 l11
  arg : Kd.C (Kd.int .u8) W A0 l0.length l0
  below : Below w.heap.size w W
section
variable {w W W' : World} {v7 v8 v9 v10 v11 : Value} {l0 l8 l9 l10 l11 : List Int} {A0 : Option Addr}
theorem S5.step (h : S5 w W v7 v8 v9 v10 v11 l0 l8 l9 l10 l11 A0) (hb : Below W.heap.size W W') : S5 w W' v7 v8 v9 v10 v11 l0 l8 l9 l10 l11 A0 :=
  ⟨h.room.below hb, h.r8.below hb, h.r9.below hb, h.r10.below hb, h.r11.below hb, Kd.C_below h.arg hb, h.below.trans (hb.mono h.below.size)⟩
theorem S5.drewN (h : S5 w W v7 v8 v9 v10 v11 l0 l8 l9 l10 l11 A0) (n : Nat) : S5 w (W.drewN n) v7 v8 v9 v10 v11 l0 l8 l9 l10 l11 A0 := h.step (pw_below_drewN (Below.refl _ W) n)
end
/-- A literal of slices. -/
theorem lit (W : World) (base : Nat) (hb : base ≤ W.heap.size) (a b c d e : Value) : IsV (W.alloc (.cells #[a, b, c, d, e] 22)) base (.slice (some ⟨W.heap.size, 0, none⟩) 5 5) [a, b, c, d, e] := by
  refine ⟨rfl, .inr ⟨W.heap.size, 5, #[a, b, c, d, e], rfl, hb, heap_alloc_new W _, Nat.le_refl _, by decide, rfl, rfl⟩⟩

set_option maxHeartbeats 4000000 in
theorem law (A0 : Option Addr) (c0 : Nat) (l0 : List Int) (a1 : Int) (a2 : ByteArray) (w : World) (hr0 : Kd.C (Kd.int .u8) w A0 l0.length l0) (hc0 : l0.length ≤ c0) (hm0 : l0.length ≤ maxLen) (hy0 : l0.length * 1 ≤ 140737488351232) (hw0 : ∀ n ∈ l0, (Lit.int .u8 n).wf = true) (h1 : (Lit.int .u64 a1).wf = true) (h2 : a2.size ≤ 140737488351232) :
    Calls Try.prog 3 #[.slice A0 l0.length c0, .int .u64 a1, .string a2] w fun e w' => e = .returned (.bool true) ∧ Below w.heap.size w w' := by
  by_cases hfar : 131072 < l0.length ∨ 131072 < a2.size
  · exact law_far A0 c0 l0.length a1 a2 w hfar (by unfold maxLen at hm0; omega) h2
  · have hl : l0.length ≤ 131072 := by omega
    have hs : a2.size ≤ 131072 := by omega
    have hv0 : 0 ≤ a1 := by have := h1; simp [Lit.wf] at this; rw [show IntKind.u64.min = 0 from rfl, show IntKind.u64.max = 18446744073709551615 from rfl] at this; omega
    have hv1 : a1 < 18446744073709551616 := by have := h1; simp [Lit.wf] at this; rw [show IntKind.u64.min = 0 from rfl, show IntKind.u64.max = 18446744073709551615 from rfl] at this; omega
    obtain ⟨rt, re, hft, hfr, hrt⟩ := text_f l0 a2 hl hs
    have FT := Lib.hid hft
    have FR := Lib.hid hfr
    have F16 := Lib.hid (p16_f l0 a1 hl hv0)
    have F32 := Lib.hid (p32_f l0 a1 hl hv0)
    have F64 := Lib.hid (p64_f l0 a1 hl hv0)
    have R16 := Lib.hid (rput_f l0 a1 hl 2 (by decide) 12 (by decide))
    have R32 := Lib.hid (rput_f l0 a1 hl 4 (by decide) 12 (by decide))
    have R64 := Lib.hid (rput_f l0 a1 hl 8 (by decide) 12 (by decide))
    have L16 : (l0 ++ Put.be a1 2).length = l0.length + 2 := by rw [List.length_append, Put.be_length]
    have L32 : (l0 ++ Put.be a1 4).length = l0.length + 4 := by rw [List.length_append, Put.be_length]
    have L64 : (l0 ++ Put.be a1 8).length = l0.length + 8 := by rw [List.length_append, Put.be_length]
    have M16 := Lib.hid L16
    clear L16
    generalize l0 ++ Put.be a1 2 = l16 at *
    have M32 := Lib.hid L32
    clear L32
    generalize l0 ++ Put.be a1 4 = l32 at *
    have M64 := Lib.hid L64
    clear L64
    generalize l0 ++ Put.be a1 8 = l64 at *
    have HC0 := Lib.hid hr0
    clear hr0 hw0 h1 hy0 hm0 hfar hft hfr
    go_enter Try.func3, Try.ntmps3
    go_wp2_with fail
    refine (Room.roomy_calls A0 c0 l0 _ HC0.out hc0 (by omega)).mono ?_
    rintro e w1 ⟨v7, rfl, hR, hb⟩
    obtain ⟨A7, c7, rfl, hc7, hC7⟩ := hR.reads
    have HRm := Lib.hid hR
    have H7 := Lib.hid hR.row
    have O7 := Lib.hid (H7.out.lt)
    have O1 : Hid (w.heap.size ≤ w1.heap.size) := hb.size
    have HB1 := Lib.hid hb
    have HC1 := Lib.hid (Kd.C_below HC0.out hb)
    have HX1 := Lib.hid hC7
    clear hR hb hC7 HC0
    go_wp2_with fail
    refine (Put.P16.calls A7 c7 l0 _ _ _ HX1.out hc7 F16.out).mono ?_
    rintro e w2 ⟨v8, rfl, hR8, hb⟩
    obtain ⟨A8, c8, rfl, hc8, hC8⟩ := (Row.of_R hR8).reads
    have H8 := Lib.hid (Row.of_R hR8)
    have O8 := Lib.hid (H8.out.lt)
    have HB2 : Hid (Below w.heap.size w w2) := HB1.out.trans (hb.mono HB1.out.size)
    have HC2 := Lib.hid (Kd.C_below HC1.out hb)
    have HX2 := Lib.hid (Kd.C_below HX1.out hb)
    have HRm2 := Lib.hid (HRm.out.below hb)
    have S2 : Hid (w1.heap.size ≤ w2.heap.size) := hb.size
    have D8 := Lib.hid hC8
    clear hb hR8 hC8 HC1 HX1 HRm HB1 H7 F16
    go_wp2_with fail
    refine (Put.P32.calls A7 c7 l0 _ _ _ HX2.out hc7 F32.out).mono ?_
    rintro e w3 ⟨v9, rfl, hR9, hb⟩
    obtain ⟨A9, c9, rfl, hc9, hC9⟩ := (Row.of_R hR9).reads
    have H9 := Lib.hid (Row.of_R hR9)
    have O9 := Lib.hid (H9.out.lt)
    have HB3 : Hid (Below w.heap.size w w3) := HB2.out.trans (hb.mono HB2.out.size)
    have HC3 := Lib.hid (Kd.C_below HC2.out hb)
    have HX3 := Lib.hid (Kd.C_below HX2.out hb)
    have HRm3 := Lib.hid (HRm2.out.below hb)
    have S3 : Hid (w2.heap.size ≤ w3.heap.size) := hb.size
    have H8c := Lib.hid (H8.out.below hb)
    clear hb hR9 hC9 HC2 HX2 HRm2 HB2 H8 F32 D8
    go_wp2_with fail
    refine (Put.P64.calls A7 c7 l0 _ _ _ HX3.out hc7 F64.out).mono ?_
    rintro e w4 ⟨v10, rfl, hR10, hb⟩
    obtain ⟨A10, c10, rfl, hc10, hC10⟩ := (Row.of_R hR10).reads
    have H10 := Lib.hid (Row.of_R hR10)
    have O10 := Lib.hid (H10.out.lt)
    have HB4 : Hid (Below w.heap.size w w4) := HB3.out.trans (hb.mono HB3.out.size)
    have HC4 := Lib.hid (Kd.C_below HC3.out hb)
    have HX4 := Lib.hid (Kd.C_below HX3.out hb)
    have HRm4 := Lib.hid (HRm3.out.below hb)
    have S4 : Hid (w3.heap.size ≤ w4.heap.size) := hb.size
    have H8d := Lib.hid (H8c.out.below hb)
    have H9d := Lib.hid (H9.out.below hb)
    clear hb hR10 hC10 HC3 HX3 HRm3 HB3 H8c H9 F64
    go_wp2_with fail
    refine (PB.octet_PutText.calls A7 c7 l0 a2 rt re _ HX4.out hc7 FT.out).mono ?_
    rintro e w5 ⟨v11, rfl, hR11, hb⟩
    obtain ⟨A11, c11, rfl, hc11, hC11⟩ := (Row.of_R hR11).reads
    have H11 := Lib.hid (Row.of_R hR11)
    have O11 := Lib.hid (H11.out.lt)
    have HB5 : Hid (Below w.heap.size w w5) := HB4.out.trans (hb.mono HB4.out.size)
    have HC5 := Lib.hid (Kd.C_below HC4.out hb)
    have HRm5 := Lib.hid (HRm4.out.below hb)
    have H8e := Lib.hid (H8d.out.below hb)
    have H9e := Lib.hid (H9d.out.below hb)
    have H10e := Lib.hid (H10.out.below hb)
    clear hb hR11 hC11 HC4 HX4 HRm4 HB4 H8d H9d H10 FT
    go_wp2_with fail
    refine (PA.ciboriumref01_PutText.calls 12 A0 c0 l0 a2 rt re _ HC5.out hc0 FR.out).mono ?_
    rintro e w6 ⟨v13, rfl, hR13, hb⟩
    obtain ⟨A13, c13, rfl, hc13, hC13⟩ := (Row.of_R hR13).reads
    have HD13 := Lib.hid hC13
    have HS6 : Hid (S5 w w6 (.slice A7 l0.length c7) (.slice A8 l16.length c8) (.slice A9 l32.length c9) (.slice A10 l64.length c10) (.slice A11 rt.length c11) l0 l16 l32 l64 rt A0) :=
      S5.step ⟨HRm5.out, H8e.out.lower (by have := HB5.out; have := S2.out; have := O1.out; omega), H9e.out.lower (by have := S2.out; have := O1.out; omega), H10e.out.lower (by have := S2.out; have := S3.out; have := O1.out; omega), H11.out.lower (by have := S2.out; have := S3.out; have := S4.out; have := O1.out; omega), HC5.out, HB5.out⟩ hb
    have HUN : Hid (∀ p q, p < 5 → q < 5 → p ≠ q → ∀ k, (five (.slice A8 l16.length c8) (.slice A7 l0.length c7) (.slice A9 l32.length c9) (.slice A10 l64.length c10) (.slice A11 rt.length c11) p).ownBlock = some k → (five (.slice A8 l16.length c8) (.slice A7 l0.length c7) (.slice A9 l32.length c9) (.slice A10 l64.length c10) (.slice A11 rt.length c11) q).ownBlock ≠ some k) :=
      five_un O8.out O7.out O9.out O10.out O11.out S2.out S3.out S4.out
    clear hb hR13 hC13 HC5 HRm5 HB5 H8e H9e H10e H11 O7 O8 O9 O10 O11 S2 S3 S4 FR O1
    go_wp2_with fail
    refine (PA.ciboriumref01_Put.calls 12 A0 c0 l0 a1 2 _ _ HS6.out.arg hc0 R16.out).mono ?_
    rintro e w7 ⟨x8, rfl, hRx, hb⟩
    obtain ⟨B8, d8, rfl, hd8, hDx⟩ := (Row.of_R hRx).reads
    have HY := Lib.hid hDx
    have HS7 := Lib.hid (HS6.out.step hb)
    have HD13b := Lib.hid (Kd.C_below HD13.out hb)
    obtain ⟨_, _, hz8⟩ := HS7.out.r8.reads'
    have HZ := Lib.hid hz8
    clear hb hRx hDx HS6 HD13 hz8
    go_wp2_with fail
    refine (PA.ciboriumref00_EqBytes.calls A8 c8 l16 B8 d8 l16 true _ HZ.out hc8 HY.out hd8 (Apart.eq_f l16)).mono ?_
    rintro e w8 ⟨rfl, n8, rfl⟩
    have HS8 := Lib.hid (HS7.out.drewN n8)
    have HD13c : Hid (Kd.C (Kd.int .u8) (w7.drewN n8) A13 rt.length rt) := HD13b.out
    generalize w7.drewN n8 = w8 at *
    clear HS7 HD13b HY HZ R16
    go_wp2_with fail
    refine (PA.ciboriumref01_Put.calls 12 A0 c0 l0 a1 4 _ _ HS8.out.arg hc0 R32.out).mono ?_
    rintro e w9 ⟨x9, rfl, hRx, hb⟩
    obtain ⟨B9, d9, rfl, hd9, hDx⟩ := (Row.of_R hRx).reads
    have HY := Lib.hid hDx
    have HS9 := Lib.hid (HS8.out.step hb)
    have HD13d := Lib.hid (Kd.C_below HD13c.out hb)
    obtain ⟨_, _, hz9⟩ := HS9.out.r9.reads'
    have HZ := Lib.hid hz9
    clear hb hRx hDx HS8 HD13c hz9
    go_wp2_with fail
    refine (PA.ciboriumref00_EqBytes.calls A9 c9 l32 B9 d9 l32 true _ HZ.out hc9 HY.out hd9 (Apart.eq_f l32)).mono ?_
    rintro e w10 ⟨rfl, n10, rfl⟩
    have HS10 := Lib.hid (HS9.out.drewN n10)
    have HD13e : Hid (Kd.C (Kd.int .u8) (w9.drewN n10) A13 rt.length rt) := HD13d.out
    generalize w9.drewN n10 = w10 at *
    clear HS9 HD13d HY HZ R32
    go_wp2_with fail
    refine (PA.ciboriumref01_Put.calls 12 A0 c0 l0 a1 8 _ _ HS10.out.arg hc0 R64.out).mono ?_
    rintro e w11 ⟨x10, rfl, hRx, hb⟩
    obtain ⟨B10, d10, rfl, hd10, hDx⟩ := (Row.of_R hRx).reads
    have HY := Lib.hid hDx
    have HS11 := Lib.hid (HS10.out.step hb)
    have HD13f := Lib.hid (Kd.C_below HD13e.out hb)
    obtain ⟨_, _, hz10⟩ := HS11.out.r10.reads'
    have HZ := Lib.hid hz10
    clear hb hRx hDx HS10 HD13e hz10
    go_wp2_with fail
    refine (PA.ciboriumref00_EqBytes.calls A10 c10 l64 B10 d10 l64 true _ HZ.out hc10 HY.out hd10 (Apart.eq_f l64)).mono ?_
    rintro e w12 ⟨rfl, n12, rfl⟩
    have HS12 := Lib.hid (HS11.out.drewN n12)
    have HD13g : Hid (Kd.C (Kd.int .u8) (w11.drewN n12) A13 rt.length rt) := HD13f.out
    generalize w11.drewN n12 = w12 at *
    obtain ⟨_, _, hz11⟩ := HS12.out.r11.reads'
    have HZ11 := Lib.hid hz11
    clear HS11 HD13f HY HZ R64 hz11
    go_wp2_with fail
    refine (PA.ciboriumref00_EqBytes.calls A11 c11 rt A13 c13 rt true _ HZ11.out hc11 HD13g.out hc13 (Apart.eq_f rt)).mono ?_
    rintro e w13 ⟨rfl, n13, rfl⟩
    have HS13 := Lib.hid (HS12.out.drewN n13)
    generalize w12.drewN n13 = w13 at *
    clear HS12 HD13g HZ11
    go_wp2_with fail
    refine (Room.kept_calls w.heap.size _ A0 c0 l0 _ HS13.out.room HS13.out.arg hc0).mono ?_
    rintro e w14 ⟨rfl, n14, rfl⟩
    have HS14 := Lib.hid (HS13.out.drewN n14)
    generalize w13.drewN n14 = w14 at *
    clear HS13
    have hlit := lit w14 w.heap.size HS14.out.below.size (.slice A8 l16.length c8) (.slice A7 l0.length c7) (.slice A9 l32.length c9) (.slice A10 l64.length c10) (.slice A11 rt.length c11)
    rw [← five_rows] at hlit
    have HLIT := Lib.hid hlit
    have HS15 := Lib.hid (HS14.out.step ((Below.refl w14.heap.size w14).alloc (Nat.le_refl _) (.cells #[.slice A8 l16.length c8, .slice A7 l0.length c7, .slice A9 l32.length c9, .slice A10 l64.length c10, .slice A11 rt.length c11] 22)))
    clear hlit HS14
    go_wp2_with fail
    refine (Apart.apart w.heap.size w14.heap.size 5 5 _ (fiveL l16 l0 l32 l64 rt) _ HLIT.out (fun q hq => ?_) HUN.out HS15.out.below.size (by decide) (fun q hq => ?_)).mono ?_
    · rcases (show q = 0 ∨ q = 1 ∨ q = 2 ∨ q = 3 ∨ q = 4 by omega) with rfl | rfl | rfl | rfl | rfl
      · exact HS15.out.r8
      · exact HS15.out.room.row
      · exact HS15.out.r9
      · exact HS15.out.r10
      · exact HS15.out.r11
    · rcases (show q = 0 ∨ q = 1 ∨ q = 2 ∨ q = 3 ∨ q = 4 by omega) with rfl | rfl | rfl | rfl | rfl
      · show l16.length ≤ _; have := M16.out; omega
      · show l0.length ≤ _; omega
      · show l32.length ≤ _; have := M32.out; omega
      · show l64.length ≤ _; have := M64.out; omega
      · show rt.length ≤ _; omega
    rintro e w16 ⟨rfl, hb⟩
    have HB16 : Hid (Below w.heap.size w w16) := HS15.out.below.trans hb
    clear hb HS15 HLIT HUN
    go_wp2_with fail
    refine (Works.works _).mono ?_
    rintro e w17 ⟨rfl, hb⟩
    have HB17 : Hid (Below w.heap.size w w17) := HB16.out.trans (hb.mono HB16.out.size)
    clear hb HB16
    go_wp2
    go_ret
    exact ⟨rfl, HB17.out⟩
end Go.Proofs.Ytengdchgfhcdhaa.HOctetWrites
