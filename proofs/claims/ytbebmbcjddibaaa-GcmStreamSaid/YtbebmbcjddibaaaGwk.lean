/- What is said here: the anchor works answers true. -/
import Derived.Test.YtbebmbcjddibaaaGz
namespace Go.Proofs.Ytbebmbcjddibaaa.Gcm
set_option linter.unusedVariables false
set_option linter.unusedSimpArgs false
open Go.RowKit Go.Proofs.YtbebmbcjddibaaaW.PrintWords Go.Proofs.YtbebmbcjddibaaaW.PrintLast Go.Proofs.YtbebmbcjddibaaaW.PrintMore Go.Proofs.Ytbebmbcjddibaaa.PG Gf Gfi Poly AesF Aes Lng
theorem bd22 (ps : Array (Nat × Value)) : Instr.build 22 ps = bd 22 ps := rfl
theorem bd12 (ps : Array (Nat × Value)) : Instr.build 23 ps = bd 23 ps := rfl
theorem bd_zero22 (W : World) : (bd 22 #[]).run Try.prog W = .ok (.agg (cB 32 z16)) W := by kernel_rfl
theorem bd_zero12 (W : World) : (bd 23 #[]).run Try.prog W = .ok (.agg (cB 12 z16)) W := by kernel_rfl
attribute [local go_sem ↓] bd22 bd12
theorem txt_nil (w : World) : Txt w none 0 [] := ⟨(Row.Is.nil w 0).reads'.2.2, Nat.le_refl _, fun x hx => absurd hx (by simp), Nat.zero_lt_succ _⟩
theorem seal_nil (E : (Nat → B) → Nat → B) (nonce : Nat → B) (ad : List Int) : sealL E nonce ad [] = tagL E nonce ad [] := rfl
/-- Nothing under the key of noughts is sealed as the known tag. -/
def zS : List Int := sealL (encB (keyK z16)) z16 [] []
theorem zS_len : zS.length = 16 := by unfold zS; rw [seal_len]; rfl
theorem zS_at (i : Nat) (hi : i < 16) : zS.getD i 0 = ofB (tagZ i) := bytesL_at tagZ i hi
theorem zS_0 : zS.getD 0 0 = 83 := by rw [zS_at 0 (by decide), tagZ_0]; rfl
theorem zS_15 : zS.getD 15 0 = 139 := by rw [zS_at 15 (by decide), tagZ_15]; rfl
theorem zS_ok : tagOk (encB (keyK z16)) z16 [] zS 0 = true := ok_seal (encB (keyK z16)) z16 [] []
theorem zS_no : tagOk (encB (keyK z16)) z16 [1] zS 0 = false := by
  have h : Eq16 (chunk zS 0) tagZ := fun i hi => by
    unfold chunk
    rw [Nat.zero_add, zS_at i hi, toB_ofB]
  have h2 := tagZ_other
  rw [Bool.eq_false_iff] at h2 ⊢
  intro h3
  apply h2
  unfold tagOk at h3
  rw [eq16_iff] at h3 ⊢
  exact h3.trans h
theorem txt_one {w : World} {b : Nat} {T : TypeId} (h : Blk.Is w b #[.int .u8 1] T) : Txt w (some ⟨b, 0, none⟩) 1 [1] := by
  refine ⟨?_, Nat.le_refl _, fun x hx => by simp at hx; omega, by decide⟩
  refine Kd.C_of_reads (d := (0 : Int)) (h1 := fun _ => rfl) ⟨rfl, by decide, fun _ => ⟨⟨b, 0, none⟩, rfl, fun j hj => ?_⟩⟩
  have hj1 : j < 1 := hj
  obtain rfl : j = 0 := by omega
  have e : (⟨b, 0, none⟩ : Addr).add 0 = ⟨b, 0, none⟩ := by rw [Addr.add_mid]
  rw [e, h.cell]
  rfl
set_option maxRecDepth 100000 in
set_option maxHeartbeats 2000000 in
theorem works (w : World) : Calls Try.prog 8 #[] w fun e w' => e = .returned (.bool true) ∧ Below w.heap.size w w' := by
  have hb32 := bd_zero22
  have hb12 := bd_zero12
  have HC := Lib.hid (ciph z16)
  have HOK := Lib.hid zS_ok
  have HNO := Lib.hid zS_no
  have HL := Lib.hid zS_len
  have HS := Lib.hid (show zS = sealL (encB (keyK z16)) z16 [] [] from rfl)
  have H0 := Lib.hid zS_0
  have H15 := Lib.hid zS_15
  generalize keyK z16 = kc at *
  generalize encB kc = E at *
  generalize zS = s at *
  go_enter Try.func8, Try.ntmps8
  go_wp2_with fail
  refine (seal_t (l1 := []) (l2 := []) HC.out (txt_nil w) (txt_nil w) (Nat.zero_le _) (Nat.zero_le _) s HS.out).mono ?_
  rintro e w1 ⟨A, c, rfl, hT, hR, hb⟩
  obtain ⟨gs, rfl, hgs⟩ := hR.head (by rw [HL.out]; decide)
  have h0 := (hR.cell 0 (by rw [HL.out]; decide)).1
  have h15 := (hR.cell 15 (by rw [HL.out]; decide)).1
  rw [H0.out] at h0
  rw [H15.out] at h15
  have HT1 := Lib.hid hT
  have HB1 := Lib.hid hb
  rw [HL.out]
  have hle : 16 ≤ c := by have h := hT.le; rwa [HL.out] at h
  clear hT hR hb hgs
  go_wp2_with fail
  clear h0 h15
  have ho := open_t (nonce := z16) HC.out (txt_nil w1) HT1.out 0 HL.out (Nat.zero_le _) (Nat.zero_le _) true HOK.out.symm [] rfl 0 rfl
  rw [HL.out] at ho
  refine ho.mono ?_
  rintro e w2 ⟨A2, c2, rfl, _, _, hb⟩
  have HT2 := Lib.hid (HT1.out.below hb)
  have HB2 := Lib.hid (HB1.out.trans (hb.mono HB1.out.size))
  clear ho hb HT1 HB1
  have HX := Lib.hid (Blk.Is.new w2 #[.int .u8 1] 5)
  have HT3 := Lib.hid (HT2.out.below ((Below.refl _ w2).alloc (Nat.le_refl _) (.cells #[.int .u8 1] 5)))
  have HB3 := Lib.hid (HB2.out.alloc HB2.out.size (.cells #[.int .u8 1] 5))
  go_wp2_with fail
  generalize w2.alloc (.cells #[.int .u8 1] 5) = w3 at *
  have ho := open_t (nonce := z16) HC.out (txt_one HX.out) HT3.out 0 HL.out (by decide) (Nat.zero_le _) false HNO.out.symm [] rfl 60 rfl
  rw [HL.out] at ho
  refine ho.mono ?_
  rintro e w4 ⟨A4, c4, rfl, _, _, hb⟩
  have HB4 := Lib.hid (HB3.out.trans (hb.mono HB3.out.size))
  clear ho hb HT3 HB3
  go_wp2_with fail
  go_ret
  exact ⟨rfl, HB4.out⟩
end Go.Proofs.Ytbebmbcjddibaaa.Gcm
