/- It is proved here that the law ShareCombines, called with any shares and any number, answers true and leaves what was there alone. No condition. -/
import Derived.Test.YtglnepokollijaaWorks4
import Derived.Test.YtglnepokollijaaTwin
import Derived.Test.YtglnepokollijaaPureCombine
namespace Go.Proofs.Ytglnepokollijaa.HShareCombines
set_option linter.unusedVariables false
set_option linter.unusedSimpArgs false
open Go.RowKit Go.Proofs.Ytglnepokollijaa.Row Go.Proofs.YtglnepokollijaaW.PrintWords Go.Proofs.YtglnepokollijaaW.PrintLast Go.Proofs.YtglnepokollijaaW.PrintMore
open Splits Go.Proofs.Ytglnepokollijaa.Twin Gfi Share PT

set_option maxHeartbeats 1000000 in
theorem law_vast (A : Option Addr) (c : Nat) (l : List S44) (a : Int) (w : World) (hC : Kd.C k44 w A l.length l) (hc : l.length ≤ c) (K : Nat) (hv : ciboriumlaw04_vast.f K l = some true) :
    Calls Try.prog 5 #[.slice A l.length c, .int .i64 a] w fun e w' => e = .returned (.bool true) ∧ Below w.heap.size w w' := by
  have HV := Lib.hid hv
  have HC := Lib.hid hC
  clear hv hC
  go_enter Try.func5, Try.ntmps5
  go_wp2_with fail
  refine (ciboriumlaw04_vast.calls K A c l true _ HC.out hc HV.out).mono ?_
  rintro e w1 ⟨rfl, hb1⟩
  have HB1 := Lib.hid hb1
  clear hb1
  go_wp2_with fail
  refine (Works4.works _).mono ?_
  rintro e w2 ⟨rfl, hb⟩
  have HB : Hid (Below w.heap.size w w2) := HB1.out.trans (hb.mono HB1.out.size)
  clear hb
  go_wp2
  go_ret
  exact ⟨rfl, HB.out⟩
set_option maxHeartbeats 1000000 in
theorem law_many (A : Option Addr) (c : Nat) (l : List S44) (a : Int) (w : World) (hC : Kd.C k44 w A l.length l) (hc : l.length ≤ c) (K : Nat) (hv : ciboriumlaw04_vast.f K l = some false) (hm : 300 < l.length) (hl : l.length ≤ 9223372036854775807) :
    Calls Try.prog 5 #[.slice A l.length c, .int .i64 a] w fun e w' => e = .returned (.bool true) ∧ Below w.heap.size w w' := by
  have HV := Lib.hid hv
  have HC := Lib.hid hC
  clear hv hC
  go_enter Try.func5, Try.ntmps5
  go_wp2_with fail
  refine (ciboriumlaw04_vast.calls K A c l false _ HC.out hc HV.out).mono ?_
  rintro e w1 ⟨rfl, hb1⟩
  have HB1 := Lib.hid hb1
  clear hb1
  go_wp2_with fail
  refine (Works4.works _).mono ?_
  rintro e w2 ⟨rfl, hb⟩
  have HB : Hid (Below w.heap.size w w2) := HB1.out.trans (hb.mono HB1.out.size)
  clear hb
  go_wp2
  go_ret
  exact ⟨rfl, HB.out⟩
/-- What stands. -/
structure St (w W : World) (A5 : Option Addr) (c5 n : Nat) (X : Nat → Gf.B) (us : Nat → Value) (ls : Nat → List Int) (H6 : Nat) (v6 : Value) (r1 : List Int) (A : Option Addr) (l : List S44) : Prop where
  own : Go.Proofs.Ytglnepokollijaa.Twin.Own w W (.slice A5 n c5) n X us ls
  r6 : Row.Is W H6 v6 r1
  arg : Kd.C k44 W A l.length l
theorem St.step {w W W' : World} {A5 : Option Addr} {c5 n : Nat} {X : Nat → Gf.B} {us : Nat → Value} {ls : Nat → List Int} {H6 : Nat} {v6 : Value} {r1 : List Int} {A : Option Addr} {l : List S44} (h : St w W A5 c5 n X us ls H6 v6 r1 A l) (hb : Below W.heap.size W W') : St w W' A5 c5 n X us ls H6 v6 r1 A l :=
  ⟨h.own.step hb, h.r6.below hb, Kd.C_below h.arg hb⟩

set_option maxHeartbeats 4000000 in
theorem law (A : Option Addr) (c : Nat) (l : List S44) (a : Int) (w : World) (hC : Kd.C k44 w A l.length l) (hc : l.length ≤ c) (hl : l.length ≤ 9223372036854775807) (hr : ∀ s ∈ l, (0 ≤ s.f0 ∧ s.f0 < 256) ∧ ∀ x ∈ s.f1, 0 ≤ x ∧ x < 256) (ha : -9223372036854775808 ≤ a ∧ a ≤ 9223372036854775807) :
    Calls Try.prog 5 #[.slice A l.length c, .int .i64 a] w fun e w' => e = .returned (.bool true) ∧ Below w.heap.size w w' := by
  obtain ⟨K, b, hv, hb⟩ := PureCombine.vast_f l
  cases b with
  | true => exact law_vast A c l a w hC hc K hv
  | false =>
    by_cases hm : 300 < l.length
    · exact law_many A c l a w hC hc K hv hm hl
    · have hs := hb rfl
      obtain ⟨K2, ⟨r1, r2⟩, hf1, hf2⟩ := PureCombine.both l hr (by omega) (fun s h => by have := hs s h; omega)
      obtain ⟨K3, hf3⟩ := PureCombine.need_both l hr (by omega) a ha
      have hrl : r1.length ≤ 65536 := PureCombine.comb_len l hs _ hf2
      have hX := readsS hC (fun s h => (hr s h).1)
      have hlen : ∀ q, q < l.length → (l.getD q z44).f1.length ≤ 100000000 := fun q hq => by
        have := hs (l.getD q z44) (by rw [List.getD_eq_getElem?_getD, List.getElem?_eq_getElem hq]; exact List.getElem_mem hq)
        omega
      have hlw : l.length ≤ 300 := by omega
      have HX0 : Hid (∀ q, q < l.length → (l.getD q z44).f1.length ≤ 1000000000) := fun q hq => by have := hlen q hq; omega
      have HTW := Lib.hid (fun W (h : Below w.heap.size w W) => twin_calls A c l.length _ _ W (hX.below h) (by omega) hlen)
      have HRC : Hid (∀ W A, ReadsS W A l.length (fun i => toB (l.getD i z44).f0) (fun i => (l.getD i z44).f1) → Kd.C k44 W A l.length l) := fun W A h => reads_C h (fun s h => (hr s h).1) (by omega)
      have HRX : Hid (∀ W, Below w.heap.size w W → ReadsS W A l.length (fun i => toB (l.getD i z44).f0) (fun i => (l.getD i z44).f1)) := fun W h => hX.below h
      have F1 := Lib.hid hf1
      have F2 := Lib.hid hf2
      have F3 := Lib.hid hf3
      have HV := Lib.hid hv
      have HC := Lib.hid hC
      have hnd : Hid (-9223372036854775808 ≤ a ∧ a ≤ 9223372036854775807) := ha
      clear hb hm hs hf1 hf2 hf3 hv hC hX hr hlen hl ha
      generalize (fun i => toB (l.getD i z44).f0) = X at *
      generalize hLf : (fun i => (l.getD i z44).f1) = Lf at *
      have HX1 : Hid (∀ q, q < l.length → (Lf q).length ≤ 1000000000) := fun q hq => by rw [← hLf]; exact HX0.out q hq
      clear HX0 hLf
      go_enter Try.func5, Try.ntmps5
      go_wp2_with fail
      refine (ciboriumlaw04_vast.calls K A c l false _ HC.out hc HV.out).mono ?_
      rintro e wd ⟨rfl, hb⟩
      have HB1 : Hid (Below w.heap.size w wd) := hb
      clear HV hb
      go_wp2_with fail
      refine (HTW.out _ HB1.out).mono ?_
      rintro e w2 ⟨v5, us, rfl, hown⟩
      have HC1 := Lib.hid (Kd.C_below HC.out (HB1.out.trans (hown.below.mono HB1.out.size)))
      have HB2 : Hid (Below w.heap.size w w2) := HB1.out.trans (hown.below.mono HB1.out.size)
      obtain ⟨A5, c5, rfl, hc5, _⟩ := hown.row.form
      have HO2 := Lib.hid hown
      clear hown HTW HC
      go_wp2_with fail
      refine (share_Combine.calls A5 c5 l r1 r2 _ (HRC.out _ _ HO2.out.readsS) hc5 F2.out).mono ?_
      rintro e w3 ⟨v6, rfl, hR, hb⟩
      have hR6 := of_R hR
      obtain ⟨A6, c6, rfl, hc6, _⟩ := hR6.reads
      have HS3 : Hid (St wd w3 A5 c5 l.length X us Lf w2.heap.size (.slice A6 r1.length c6) r1 A l) := ⟨HO2.out.step hb, hR6, Kd.C_below HC1.out hb⟩
      have HB3 : Hid (Below w.heap.size w w3) := HB2.out.trans (hb.mono HB2.out.size)
      have HU : Hid (∀ q, q < l.length → ∀ k, (us q).ownBlock = some k → k < w2.heap.size) := fun q hq k hk => (HO2.out.lt q hq k hk).2
      have HW2 : Hid (wd.heap.size ≤ w2.heap.size) := HO2.out.below.size
      clear hR hR6 hb F2 HO2 HC1 HB2
      go_wp2_with fail
      refine (ciboriumref04_Combine.calls K2 A c l r1 r2 _ HS3.out.arg hc F1.out).mono ?_
      rintro e w4 ⟨v8, rfl, hR, hb⟩
      obtain ⟨A8, c8, rfl, hc8, hC8⟩ := (of_R hR).reads
      have H8 := Lib.hid hC8
      have HS4 := Lib.hid (HS3.out.step hb)
      have HB4 : Hid (Below w.heap.size w w4) := HB3.out.trans (hb.mono HB3.out.size)
      obtain ⟨_, _, hC6⟩ := HS4.out.r6.reads'
      have H6 := Lib.hid hC6
      clear hR hC8 hb F1 HS3 HB3 hC6
      go_wp2_with fail
      refine (PA.ciboriumref00_EqBytes.calls A6 c6 r1 A8 c8 r1 true _ H6.out hc6 H8.out hc8 (Apart.eq_f r1)).mono ?_
      rintro e w5 ⟨rfl, n5, rfl⟩
      have HS5 := Lib.hid (HS4.out.step (pw_below_drewN (Below.refl _ w4) n5))
      have HB5 := Lib.hid (pw_below_drewN HB4.out n5)
      clear HS4 HB4 H6 H8
      generalize w4.drewN n5 = w5 at *
      go_wp2_with fail
      refine (Go.Proofs.Ytglnepokollijaa.Twin.kept_calls A5 A c5 c l.length X us Lf _ HS5.out.own (HRX.out _ HB5.out) (by omega)).mono ?_
      rintro e w6 ⟨rfl, n6, rfl⟩
      have HS6 := Lib.hid (HS5.out.step (pw_below_drewN (Below.refl _ w5) n6))
      have HB6 := Lib.hid (pw_below_drewN HB5.out n6)
      clear HS5 HB5
      generalize w5.drewN n6 = w6 at *
      go_wp2_with fail
      refine (Share.need_calls A5 c5 l.length a X Lf _ HS6.out.own.readsS (by omega) hnd.out.1 hnd.out.2).mono ?_
      rintro e w7 ⟨rfl, hb⟩
      have HS7 := Lib.hid (HS6.out.step hb)
      have HB7 : Hid (Below w.heap.size w w7) := HB6.out.trans (hb.mono HB6.out.size)
      clear HS6 HB6 hb
      generalize need X l.length a = nd at *
      go_wp2_with fail
      refine (ciboriumref04_Need.calls K3 A c l a nd _ HS7.out.arg hc F3.out).mono ?_
      rintro e w8 ⟨rfl, n8, rfl⟩
      have HS8 := Lib.hid (HS7.out.step (pw_below_drewN (Below.refl _ w7) n8))
      have HB8 := Lib.hid (pw_below_drewN HB7.out n8)
      clear HS7 HB7 F3
      generalize w7.drewN n8 = w8 at *
      go_wp2_with fail
      refine (Go.Proofs.Ytglnepokollijaa.Twin.kept_calls A5 A c5 c l.length X us Lf _ HS8.out.own (HRX.out _ HB8.out) (by omega)).mono ?_
      rintro e w9 ⟨rfl, n9, rfl⟩
      have HS9 := Lib.hid (HS8.out.step (pw_below_drewN (Below.refl _ w8) n9))
      have HB9 := Lib.hid (pw_below_drewN HB8.out n9)
      clear HS8 HB8
      generalize w8.drewN n9 = w9 at *
      go_wp2_with fail
      refine (Ys.ys_calls A5 l.length c5 us _ HS9.out.own.rows (by omega)).mono ?_
      rintro e w10 ⟨v10, rfl, hV, hb⟩
      have HV10 := Lib.hid (hV.low (show wd.heap.size ≤ w9.heap.size from HS9.out.own.below.size))
      have HS10 := Lib.hid (HS9.out.step hb)
      have HB10 : Hid (Below w.heap.size w w10) := HB9.out.trans (hb.mono HB9.out.size)
      clear hV hb HS9 HB9
      go_wp2_with (refine Row.appendV wd.heap.size _ _ v10 (.slice A6 r1.length c6) (Apart.rows l.length us) rfl rfl rfl rfl HV10.out rfl HS10.out.own.below.size (by rw [Apart.rows_len]; omega) ?_; intro v11 w11 h1 h2 h3)
      rw [one_rows] at h1
      have HV11 := Lib.hid h1
      have HB11 : Hid (Below wd.heap.size wd w11) := HS10.out.own.below.trans h2
      have HBw : Hid (Below w.heap.size w w11) := HB10.out.trans (h2.mono (Nat.le_trans (by have := HB1.out.size; exact this) (Nat.le_refl _)))
      have HE11 : Hid (∀ q, q < l.length + 1 → Row.Is w11 wd.heap.size (one l.length us (.slice A6 r1.length c6) q) (oneL l.length Lf r1 q) ∧ (oneL l.length Lf r1 q).length ≤ 1000000000) := fun q hq => by
        have keep : ∀ u l, Row.Is w10 wd.heap.size u l → Row.Is w11 wd.heap.size u l := fun u l h => h.grown h3 (fun k hk e => HV10.out.apart h k e.symm hk)
        unfold one oneL
        split
        · rename_i hq1
          exact ⟨keep _ _ (Is.row (HS10.out.own.each q hq1)), HX1.out q hq1⟩
        · exact ⟨keep _ _ (HS10.out.r6.lower HW2.out), by omega⟩
      have HU11 := Lib.hid (one_un (h1 := w2.heap.size) HS10.out.own.uns HU.out (fun k hk => (HS10.out.r6.lt k hk).1))
      clear h1 h2 h3 HV10 HS10 HB10 HX1 HU
      obtain ⟨g, c11, rfl, hn11, _, _⟩ := HV11.out.shape (by rw [Apart.rows_len]; omega)
      rw [Apart.rows_len] at hn11 ⊢
      have HV12 : Hid (IsV w11 wd.heap.size (.slice (some ⟨g, 0, none⟩) (l.length + 1) c11) (Apart.rows (l.length + 1) (one l.length us (.slice A6 r1.length c6)))) := by
        have := HV11.out
        rw [Apart.rows_len] at this
        exact this
      clear HV11
      go_wp2_with fail
      refine (Apart.apart wd.heap.size g (l.length + 1) c11 _ (oneL l.length Lf r1) _ HV12.out (fun q hq => (HE11.out q hq).1) HU11.out HB11.out.size (by omega) (fun q hq => (HE11.out q hq).2)).mono ?_
      rintro e w12 ⟨rfl, hb⟩
      have HB12 : Hid (Below w.heap.size w w12) := HBw.out.trans (hb.mono (by have := HB1.out.size; exact this))
      clear hb HV12 HE11 HU11 HB11 HBw
      go_wp2_with fail
      refine (Works4.works _).mono ?_
      rintro e w13 ⟨rfl, hb⟩
      have HB13 : Hid (Below w.heap.size w w13) := HB12.out.trans (hb.mono HB12.out.size)
      clear hb HB12
      go_wp2
      go_ret
      exact ⟨rfl, HB13.out⟩
end Go.Proofs.Ytglnepokollijaa.HShareCombines
