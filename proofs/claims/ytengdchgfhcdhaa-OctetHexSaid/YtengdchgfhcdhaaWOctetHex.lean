/- It is proved here that the law OctetHex, called with any bytes and any text, answers true and leaves what was there alone. No condition. -/
import Derived.Test.YtengdchgfhcdhaaWorks
import Derived.Test.YtengdchgfhcdhaaRoom
import Derived.Test.YtengdchgfhcdhaaPureHex2
namespace Go.Proofs.Ytengdchgfhcdhaa.HOctetHex
set_option linter.unusedVariables false
set_option linter.unusedSimpArgs false
open Go.RowKit Go.Proofs.YtengdchgfhcdhaaW.PrintWords Go.Proofs.YtengdchgfhcdhaaW.PrintLast Go.Proofs.YtengdchgfhcdhaaW.PrintMore

theorem law_far (A0 : Option Addr) (c0 n : Nat) (a1 : ByteArray) (w : World) (h : 131072 < n ∨ 131072 < a1.size) (hm : n ≤ 9223372036854775807) (hm2 : a1.size ≤ 140737488351232) :
    Calls Try.prog 8 #[.slice A0 n c0, .string a1] w fun e w' => e = .returned (.bool true) ∧ Below w.heap.size w w' := by
  by_cases h1 : 131072 < n
  · go_enter Try.func8, Try.ntmps8
    go_wp2_with fail
    refine (Works.works _).mono ?_
    rintro e w1 ⟨rfl, hb⟩
    go_wp2
    go_ret
    exact ⟨rfl, hb⟩
  · have h2 : 131072 < a1.size := h.resolve_left h1
    go_enter Try.func8, Try.ntmps8
    go_wp2_with fail
    refine (Works.works _).mono ?_
    rintro e w1 ⟨rfl, hb⟩
    go_wp2
    go_ret
    exact ⟨rfl, hb⟩

theorem bytesOf_range (s : ByteArray) : ∀ x ∈ bytesOf s, 0 ≤ x ∧ x < 256 := by
  intro x hx
  obtain ⟨b, _, rfl⟩ := List.mem_map.1 hx
  have := b.toNat_lt
  omega
theorem str_eq (l : List Int) (s : ByteArray) (hl : ∀ x ∈ l, 0 ≤ x ∧ x < 256) : ((strOfNums l).toList == s.toList) = decide (l = bytesOf s) := by
  have e : s.toList = s.data.toList := ByteArray.toList_eq s
  have e2 : (strOfNums l).toList = l.map fun n => UInt8.ofNat n.toNat := (ByteArray.toList_eq _).trans (strOfNums_data l)
  rw [Bool.eq_iff_iff, decide_eq_true_eq, beq_iff_eq, e, e2]
  constructor
  · intro h
    unfold bytesOf
    rw [← h, List.map_map]
    have h3 : l.map ((fun b : UInt8 => (b.toNat : Int)) ∘ fun n : Int => UInt8.ofNat n.toNat) = l.map id := by
      refine List.map_congr_left (fun x hx => ?_)
      have := hl x hx
      show ((UInt8.ofNat x.toNat).toNat : Int) = x
      rw [UInt8.toNat_ofNat', Nat.mod_eq_of_lt (by omega)]
      omega
    rw [h3, List.map_id]
  · intro h
    rw [h]
    unfold bytesOf
    rw [List.map_map]
    refine List.map_id'' (fun x => ?_) _
    simp
theorem copy_f (l : List Int) (h : l.length ≤ 100000000000000) : PA.ciboriumref00_CopyBytes.f l = some l := by
  unfold PA.ciboriumref00_CopyBytes.f
  rw [if_pos (by simp; omega)]
  rfl
theorem bytesC (W : World) (s : ByteArray) (hs : s.size ≤ 131072) : Kd.C (Kd.int .u8) (Lib.bytesWorld W 5 s) (some ⟨W.heap.size, 0, none⟩) (bytesOf s).length (bytesOf s) := by
  have h := bytes_reads W 5 s (by omega)
  rw [← bytesOf_length s] at h
  exact Kd.C_of_reads (d := (0 : Int)) (h1 := fun _ => rfl) h
theorem equalC (A0 : Option Addr) (c0 n0 : Nat) (l0 : List Int) (A1 : Option Addr) (c1 n1 : Nat) (l1 : List Int) (w : World) (h0 : n0 = l0.length) (h1 : n1 = l1.length) (hr0 : Kd.C (Kd.int .u8) w A0 l0.length l0) (hc0 : n0 ≤ c0) (hr1 : Kd.C (Kd.int .u8) w A1 l1.length l1) (hc1 : n1 ≤ c1) (b0 : ∀ x ∈ l0, 0 ≤ x ∧ x < 256) (b1 : ∀ x ∈ l1, 0 ≤ x ∧ x < 256) (hN : l0.length ≤ 1000000000) :
    Calls Try.prog 43 #[.slice A0 n0 c0, .slice A1 n1 c1] w fun e w' => e = .returned (.bool (decide (l0 = l1))) ∧ Drawn0 w w' := by
  subst h0
  subst h1
  exact PA.octet_Equal.calls (l0.length + 1) A0 c0 l0 A1 c1 l1 _ w hr0 hc0 hr1 hc1 (PureHex.equal_both l0 l1 b0 b1 hN _ (Nat.le_refl _))

set_option maxHeartbeats 4000000 in
theorem law (A0 : Option Addr) (c0 : Nat) (l0 : List Int) (a1 : ByteArray) (w : World) (hr0 : Kd.C (Kd.int .u8) w A0 l0.length l0) (hc0 : l0.length ≤ c0) (hm0 : l0.length ≤ maxLen) (y0 : l0.length * 1 ≤ 140737488351232) (hw0 : ∀ x ∈ l0, (Lit.int .u8 x).wf = true) (w1 : a1.size ≤ 140737488351232) :
    Calls Try.prog 8 #[.slice A0 l0.length c0, .string a1] w fun e w' => e = .returned (.bool true) ∧ Below w.heap.size w w' := by
  by_cases hfar : 131072 < l0.length ∨ 131072 < a1.size
  · exact law_far A0 c0 l0.length a1 w hfar hm0 w1
  · have hn : l0.length ≤ 131072 := by omega
    have hn1 : a1.size ≤ 131072 := by omega
    have hb0 : ∀ x ∈ l0, 0 ≤ x ∧ x < 256 := fun x hx => by
      have h : IntKind.u8.min ≤ x ∧ x ≤ IntKind.u8.max := by simpa [Lit.wf] using hw0 x hx
      have h2 : (0 : Int) ≤ x ∧ x ≤ 255 := h
      omega
    have HB0 := Lib.hid hb0
    have HR := Lib.hid hr0
    have F1 := Lib.hid (PureHex.refHex l0 hb0 (by omega) l0.length 0 (by omega) (l0.length + 1) (by omega))
    obtain ⟨r1, r2, K, hf, hrl⟩ := PureHex.unhex_both a1 (by omega)
    have F2 := Lib.hid (hf K (Nat.le_refl _)).1
    have F3 := Lib.hid (hf K (Nat.le_refl _)).2
    have RC := Lib.hid (Room.roomy_calls A0 c0 l0 w hr0 hc0 (by omega))
    clear hf hr0 hw0 hb0 hfar hm0 y0 w1
    go_enter Try.func8, Try.ntmps8
    go_wp2_with fail
    refine RC.out.mono ?_
    rintro e w1 ⟨v, rfl, hroom, hb1⟩
    obtain ⟨A1, c1, hv, hc1, hr1⟩ := hroom.reads
    subst hv
    have Hroom := Lib.hid hroom
    have H1 := Lib.hid hr1
    have H0 := Lib.hid (Kd.C_below HR.out hb1)
    have HB1 := Lib.hid hb1
    clear hroom hr1 RC HR hb1
    go_wp2_with fail
    refine (Hex.hex A1 c1 l0 _ H1.out (by omega) HB0.out).mono ?_
    rintro e w2 ⟨rfl, hb⟩
    have HB2 : Hid (Below w.heap.size w w2) := HB1.out.trans (hb.mono HB1.out.size)
    have Hroom2 := Lib.hid (Hroom.out.below hb)
    have H12 := Lib.hid (Kd.C_below H1.out hb)
    have H02 := Lib.hid (Kd.C_below H0.out hb)
    clear hb HB1 Hroom H1 H0
    go_wp2_with fail
    refine (PA.ciboriumref01_Hex.calls _ A0 c0 l0 _ _ H02.out hc0 F1.out).mono ?_
    rintro e w3 ⟨rfl, hb⟩
    have HB3 : Hid (Below w.heap.size w w3) := HB2.out.trans (hb.mono HB2.out.size)
    have Hroom3 := Lib.hid (Hroom2.out.below hb)
    have H13 := Lib.hid (Kd.C_below H12.out hb)
    have H03 := Lib.hid (Kd.C_below H02.out hb)
    clear hb HB2 Hroom2 H12 H02
    go_wp2_with fail
    refine (PA.octet_Unhex.calls K a1 r1 r2 _ F2.out).mono ?_
    rintro e w4 ⟨v4, rfl, hR4, hb⟩
    obtain ⟨A4, c4, rfl, hc4, hC4⟩ := (Row.of_R hR4).reads
    have H4 := Lib.hid hC4
    have HB4 : Hid (Below w.heap.size w w4) := HB3.out.trans (hb.mono HB3.out.size)
    have Hroom4 := Lib.hid (Hroom3.out.below hb)
    have H14 := Lib.hid (Kd.C_below H13.out hb)
    have H04 := Lib.hid (Kd.C_below H03.out hb)
    clear hb HB3 Hroom3 H13 H03 hR4 hC4
    go_wp2_with fail
    refine (PU.ciboriumref01_Unhex.calls K a1 r1 r2 _ F3.out).mono ?_
    rintro e w5 ⟨v5, rfl, hR5, hb⟩
    obtain ⟨A5, c5, rfl, hc5, hC5⟩ := (Row.of_R hR5).reads
    have H5 := Lib.hid hC5
    have H45 := Lib.hid (Kd.C_below H4.out hb)
    have HB5 : Hid (Below w.heap.size w w5) := HB4.out.trans (hb.mono HB4.out.size)
    have Hroom5 := Lib.hid (Hroom4.out.below hb)
    have H15 := Lib.hid (Kd.C_below H14.out hb)
    have H05 := Lib.hid (Kd.C_below H04.out hb)
    clear hb HB4 Hroom4 H14 H04 hR5 hC5 H4
    go_wp2_with fail
    refine (PA.ciboriumref00_EqBytes.calls A4 c4 r1 A5 c5 r1 true _ H45.out hc4 H5.out hc5 (by unfold PA.ciboriumref00_EqBytes.f; simp)).mono ?_
    rintro e w6 ⟨rfl, n6, rfl⟩
    clear H45 H5 hc4 hc5
    have H0w6 := Lib.hid (Kd.C_drewN H05.out n6)
    have H1w6 := Lib.hid (Kd.C_drewN H15.out n6)
    have HRmw6 := Lib.hid (Hroom5.out.drewN n6)
    have HBw6 := Lib.hid (pw_below_drewN HB5.out n6)
    clear H05 H15 Hroom5 HB5
    go_wp2_with fail
    generalize w5.drewN n6 = w6 at *
    obtain ⟨d, hd⟩ : ∃ d, d = decide (l0 = bytesOf a1) := ⟨_, rfl⟩
    have hd2 : d = decide (bytesOf a1 = l0) := by rw [hd]; congr 1; exact propext ⟨Eq.symm, Eq.symm⟩
    have hE : ((strOfNums l0).toList == a1.toList) = d := by rw [hd]; exact str_eq l0 a1 HB0.out
    have kb := fun W => print_bytes (P := Try.prog) 9 22 5 Try.underlying9 Try.underlying22 Try.underlying5 a1 W
    have HS : Hid (∀ W, Kd.C (Kd.int .u8) W A0 l0.length l0 → Sem.run Try.prog (convert 22 9 (.slice A0 l0.length c0)) W = .ok (.string (strOfNums l0)) W) := fun W hW => Kd.C_string (P := Try.prog) (A := A0) (c := c0) Try.underlying22 Try.underlying5 Try.underlying9 hW
    -- region 10
    refine start_ (n := 27) (S := fun w' => Sem.run Try.prog (convert 22 9 (.slice A0 l0.length c0)) w' = .ok (.string (strOfNums l0)) w') (ds := []) #[false, false, false, false, false, false, false, false, false, false, false, false, false, false, false, false, false, false, false, false, false, false, false, false, false, false, false] (by kernel_rfl) rfl rfl ((HS.out _ (Kd.C_drew H0w6.out))) (fun hHeld => ?_)
    have H0w7 := Lib.hid (Kd.C_drew H0w6.out)
    have H1w7 := Lib.hid (Kd.C_drew H1w6.out)
    have HRmw7 := Lib.hid (HRmw6.out.drewN 1)
    have HBw7 := Lib.hid (pw_below_drewN HBw6.out 1)
    clear H0w6 H1w6 HRmw6 HBw6
    change Hid (Kd.C _ w6.drew _ _ _) at H0w7
    change Hid (Room.Is w6.drew _ _ _) at HRmw7
    change Hid (Below _ _ w6.drew) at HBw7
    generalize w6.drew = w7 at *
    refine pure_ (i := 0) (N := some 45) (v := ?_) (a' := ?_) #[true, false, false, false, false, false, false, false, false, false, false, false, false, false, false, false, false, false, false, false, false, false, false, false, false, false, false] rfl rfl (by kernel_rfl) (fun _ _ _ h => h) (Or.inl ⟨by rfl, ?_⟩) ?_ ?_
    rotate_left
    · intro w'
      go_simp
      with_reducible rfl
    rotate_left
    · simp only [Act.put, List.setIfInBounds_toArray, List.set_cons_zero, List.set_cons_succ, i64_w, i32_w]
      rfl
    refine pure_ (i := 1) (N := some 46) (v := ?_) (a' := ?_) #[true, true, false, false, false, false, false, false, false, false, false, false, false, false, false, false, false, false, false, false, false, false, false, false, false, false, false] rfl rfl (by kernel_rfl) (fun _ _ _ h => h) (Or.inl ⟨by rfl, ?_⟩) ?_ ?_
    rotate_left
    · intro w'
      go_simp
      with_reducible rfl
    rotate_left
    · simp only [Act.put, List.setIfInBounds_toArray, List.set_cons_zero, List.set_cons_succ, i64_w, i32_w]
      rfl
    refine pure_ (i := 4) (N := some 49) (v := ?_) (a' := ?_) #[true, true, false, false, true, false, false, false, false, false, false, false, false, false, false, false, false, false, false, false, false, false, false, false, false, false, false] rfl rfl (by kernel_rfl) (fun _ _ _ h => h) (Or.inl ⟨by rfl, ?_⟩) ?_ ?_
    rotate_left
    · intro w'
      go_simp
      with_reducible rfl
    rotate_left
    · simp only [Act.put, List.setIfInBounds_toArray, List.set_cons_zero, List.set_cons_succ, i64_w, i32_w]
      rfl
    refine pure_ (i := 6) (N := some 51) (v := ?_) (a' := ?_) #[true, true, false, false, true, false, true, false, false, false, false, false, false, false, false, false, false, false, false, false, false, false, false, false, false, false, false] rfl rfl (by kernel_rfl) (fun _ _ _ h => h) (Or.inl ⟨by rfl, ?_⟩) ?_ ?_
    rotate_left
    · intro w'
      go_simp
      with_reducible rfl
    rotate_left
    · simp only [Act.put, List.setIfInBounds_toArray, List.set_cons_zero, List.set_cons_succ, i64_w, i32_w]
      rfl
    refine take_ (i := 5) (N := some 50) (v := ?_) (a' := ?_) #[true, true, false, false, true, true, true, false, false, false, false, false, false, false, false, false, false, false, false, false, false, false, false, false, false, false, false] rfl rfl (by kernel_rfl) (fun _ _ _ h => h) (Or.inl ⟨by rfl, ?_⟩) hHeld ?_ ?_
    rotate_left
    · intro w' s0
      go_simp
      with_reducible rfl
    rotate_left
    · simp only [Act.put, List.setIfInBounds_toArray, List.set_cons_zero, List.set_cons_succ, i64_w, i32_w]
      rfl
    refine pure_ (i := 7) (N := some 52) (v := ?_) (a' := ?_) #[true, true, false, false, true, true, true, true, false, false, false, false, false, false, false, false, false, false, false, false, false, false, false, false, false, false, false] rfl rfl (by kernel_rfl) (fun _ _ _ h => h) (Or.inl ⟨by rfl, ?_⟩) ?_ ?_
    rotate_left
    · intro w'
      go_simp
      with_reducible rfl
    rotate_left
    · simp only [Act.put, List.setIfInBounds_toArray, List.set_cons_zero, List.set_cons_succ, i64_w, i32_w]
      rfl
    refine one_ (i := 2) (N := some 47) #[true, true, true, false, true, true, true, true, false, false, false, false, false, false, false, false, false, false, false, false, false, false, false, false, false, false, false] rfl rfl (by kernel_rfl) (by decide) (fun K hK => ?_)
    refine value_ (w1 := ?_) (v := ?_) (by rfl) rfl ?_ ?_
    rotate_left 2
    · go_simp
      constructor
      · rfl
      · rfl
    have HXw8 := Lib.hid (bytesC w7 a1 hn1)
    have hb := bytes_below (Below.refl w7.heap.size w7) (Nat.le_refl _) 5 a1
    have H0w8 := Lib.hid (Kd.C_below H0w7.out hb)
    have H1w8 := Lib.hid (Kd.C_below H1w7.out hb)
    have HRmw8 := Lib.hid (HRmw7.out.below hb)
    have HBw8 := Lib.hid (HBw7.out.trans (hb.mono HBw7.out.size))
    clear hb H0w7 H1w7 HRmw7 HBw7
    have hcapw8 := grownCap_ge w7 a1.size 0 5
    generalize Lib.bytesWorld w7 5 a1 = w8 at *
    generalize grownCap w7 a1.size 0 5 = capw8 at *
    refine hK.out _ _ ((HS.out _ H0w8.out)) (fun hHeld => ?_)
    clear hK K
    refine norm_ (a' := ?_) ?_ ?_
    rotate_left
    · show Act.put _ (some 47) _ = _
      simp only [Act.put, List.setIfInBounds_toArray, List.set_cons_zero, List.set_cons_succ, i64_w, i32_w]
      rfl
    refine one_ (i := 3) (N := some 48) #[true, true, true, true, true, true, true, true, false, false, false, false, false, false, false, false, false, false, false, false, false, false, false, false, false, false, false] rfl rfl (by kernel_rfl) (by decide) (fun K hK => ?_)
    refine goes_ Try.func43 (by kernel_rfl) rfl #[.slice A1 l0.length c1, .slice (some ⟨w7.heap.size, 0, none⟩) a1.size capw8] (by rfl) rfl rfl (by simp only [List.map_toArray, List.map_cons, List.map_nil]; rfl) ?_
    with_reducible refine (equalC A1 c1 l0.length l0 _ capw8 a1.size (bytesOf a1) _ rfl (bytesOf_length a1).symm H1w8.out hc1 HXw8.out hcapw8 HB0.out (bytesOf_range a1) (by omega)).mono ?_
    rintro e w' ⟨rfl, n9, rfl⟩
    refine ⟨_, rfl, ?_⟩
    rw [← hd]
    have hb := pw_below_drewN (Below.refl w8.heap.size w8) n9
    have H0w9 := Lib.hid (Kd.C_below H0w8.out hb)
    have H1w9 := Lib.hid (Kd.C_below H1w8.out hb)
    have HRmw9 := Lib.hid (HRmw8.out.below hb)
    have HBw9 := Lib.hid (HBw8.out.trans (hb.mono HBw8.out.size))
    clear hb H0w8 H1w8 HRmw8 HBw8
    generalize w8.drewN n9 = w9 at *
    refine hK.out _ _ ((HS.out _ H0w9.out)) (fun hHeld => ?_)
    clear hK K
    refine norm_ (a' := ?_) ?_ ?_
    rotate_left
    · show Act.put _ (some 48) _ = _
      simp only [Act.put, List.setIfInBounds_toArray, List.set_cons_zero, List.set_cons_succ, i64_w, i32_w]
      rfl
    refine pure_ (i := 8) (N := some 53) (v := ?_) (a' := ?_) #[true, true, true, true, true, true, true, true, true, false, false, false, false, false, false, false, false, false, false, false, false, false, false, false, false, false, false] rfl rfl (by kernel_rfl) (fun _ _ _ h => h) (Or.inl ⟨by rfl, ?_⟩) ?_ ?_
    rotate_left
    · intro w'
      go_simp
      with_reducible rfl
    rotate_left
    · simp only [Act.put, List.setIfInBounds_toArray, List.set_cons_zero, List.set_cons_succ, i64_w, i32_w]
      rfl
    refine pure_ (i := 9) (N := some 54) (v := ?_) (a' := ?_) #[true, true, true, true, true, true, true, true, true, true, false, false, false, false, false, false, false, false, false, false, false, false, false, false, false, false, false] rfl rfl (by kernel_rfl) (fun _ _ _ h => h) (Or.inl ⟨by rfl, ?_⟩) ?_ ?_
    rotate_left
    · intro w'
      go_simp
      with_reducible rfl
    rotate_left
    · simp only [Act.put, List.setIfInBounds_toArray, List.set_cons_zero, List.set_cons_succ, i64_w, i32_w]
      rfl
    refine pure_ (i := 10) (N := some 55) (v := ?_) (a' := ?_) #[true, true, true, true, true, true, true, true, true, true, true, false, false, false, false, false, false, false, false, false, false, false, false, false, false, false, false] rfl rfl (by kernel_rfl) (fun _ _ _ h => h) (Or.inl ⟨by rfl, ?_⟩) ?_ ?_
    rotate_left
    · intro w'
      go_simp
      with_reducible rfl
    rotate_left
    · simp only [Act.put, List.setIfInBounds_toArray, List.set_cons_zero, List.set_cons_succ, i64_w, i32_w]
      rfl
    refine pure_ (i := 12) (N := some 57) (v := ?_) (a' := ?_) #[true, true, true, true, true, true, true, true, true, true, true, false, true, false, false, false, false, false, false, false, false, false, false, false, false, false, false] rfl rfl (by kernel_rfl) (fun _ _ _ h => h) (Or.inl ⟨by rfl, ?_⟩) ?_ ?_
    rotate_left
    · intro w'
      go_simp
      with_reducible rfl
    rotate_left
    · simp only [Act.put, List.setIfInBounds_toArray, List.set_cons_zero, List.set_cons_succ, i64_w, i32_w]
      rfl
    refine pure_ (i := 14) (N := some 59) (v := ?_) (a' := ?_) #[true, true, true, true, true, true, true, true, true, true, true, false, true, false, true, false, false, false, false, false, false, false, false, false, false, false, false] rfl rfl (by kernel_rfl) (fun _ _ _ h => h) (Or.inl ⟨by rfl, ?_⟩) ?_ ?_
    rotate_left
    · intro w'
      go_simp
      with_reducible rfl
    rotate_left
    · simp only [Act.put, List.setIfInBounds_toArray, List.set_cons_zero, List.set_cons_succ, i64_w, i32_w]
      rfl
    refine pure_ (i := 16) (N := some 61) (v := ?_) (a' := ?_) #[true, true, true, true, true, true, true, true, true, true, true, false, true, false, true, false, true, false, false, false, false, false, false, false, false, false, false] rfl rfl (by kernel_rfl) (fun _ _ _ h => h) (Or.inl ⟨by rfl, ?_⟩) ?_ ?_
    rotate_left
    · intro w'
      go_simp
      with_reducible rfl
    rotate_left
    · simp only [Act.put, List.setIfInBounds_toArray, List.set_cons_zero, List.set_cons_succ, i64_w, i32_w]
      rfl
    refine take_ (i := 15) (N := some 60) (v := ?_) (a' := ?_) #[true, true, true, true, true, true, true, true, true, true, true, false, true, false, true, true, true, false, false, false, false, false, false, false, false, false, false] rfl rfl (by kernel_rfl) (fun _ _ _ h => h) (Or.inl ⟨by rfl, ?_⟩) hHeld ?_ ?_
    rotate_left
    · intro w' s0
      go_simp
      with_reducible rfl
    rotate_left
    · simp only [Act.put, List.setIfInBounds_toArray, List.set_cons_zero, List.set_cons_succ, i64_w, i32_w]
      rfl
    refine pure_ (i := 17) (N := some 62) (v := ?_) (a' := ?_) #[true, true, true, true, true, true, true, true, true, true, true, false, true, false, true, true, true, true, false, false, false, false, false, false, false, false, false] rfl rfl (by kernel_rfl) (fun _ _ _ h => h) (Or.inl ⟨by rfl, ?_⟩) ?_ ?_
    rotate_left
    · intro w'
      go_simp
      with_reducible rfl
    rotate_left
    · simp only [Act.put, List.setIfInBounds_toArray, List.set_cons_zero, List.set_cons_succ, i64_w, i32_w]
      rfl
    refine one_ (i := 11) (N := some 56) #[true, true, true, true, true, true, true, true, true, true, true, true, true, false, true, true, true, true, false, false, false, false, false, false, false, false, false] rfl rfl (by kernel_rfl) (by decide) (fun K hK => ?_)
    refine value_ (w1 := ?_) (v := ?_) (by rfl) rfl ?_ ?_
    rotate_left 2
    · go_simp
      constructor
      · rfl
      · rfl
    have HXw10 := Lib.hid (bytesC w9 a1 hn1)
    have hb := bytes_below (Below.refl w9.heap.size w9) (Nat.le_refl _) 5 a1
    have H0w10 := Lib.hid (Kd.C_below H0w9.out hb)
    have H1w10 := Lib.hid (Kd.C_below H1w9.out hb)
    have HRmw10 := Lib.hid (HRmw9.out.below hb)
    have HBw10 := Lib.hid (HBw9.out.trans (hb.mono HBw9.out.size))
    clear hb H0w9 H1w9 HRmw9 HBw9
    have hcapw10 := grownCap_ge w9 a1.size 0 5
    generalize Lib.bytesWorld w9 5 a1 = w10 at *
    generalize grownCap w9 a1.size 0 5 = capw10 at *
    refine hK.out _ _ ((HS.out _ H0w10.out)) (fun hHeld => ?_)
    clear hK K
    refine norm_ (a' := ?_) ?_ ?_
    rotate_left
    · show Act.put _ (some 56) _ = _
      simp only [Act.put, List.setIfInBounds_toArray, List.set_cons_zero, List.set_cons_succ, i64_w, i32_w]
      rfl
    refine one_ (i := 13) (N := some 58) #[true, true, true, true, true, true, true, true, true, true, true, true, true, true, true, true, true, true, false, false, false, false, false, false, false, false, false] rfl rfl (by kernel_rfl) (by decide) (fun K hK => ?_)
    refine goes_ Try.func43 (by kernel_rfl) rfl #[.slice (some ⟨w9.heap.size, 0, none⟩) a1.size capw10, .slice A1 l0.length c1] (by rfl) rfl rfl (by simp only [List.map_toArray, List.map_cons, List.map_nil]; rfl) ?_
    with_reducible refine (equalC _ capw10 a1.size (bytesOf a1) A1 c1 l0.length l0 _ (bytesOf_length a1).symm rfl HXw10.out hcapw10 H1w10.out hc1 (bytesOf_range a1) HB0.out (by rw [bytesOf_length]; omega)).mono ?_
    rintro e w' ⟨rfl, n11, rfl⟩
    refine ⟨_, rfl, ?_⟩
    rw [← hd2]
    have hb := pw_below_drewN (Below.refl w10.heap.size w10) n11
    have H0w11 := Lib.hid (Kd.C_below H0w10.out hb)
    have H1w11 := Lib.hid (Kd.C_below H1w10.out hb)
    have HRmw11 := Lib.hid (HRmw10.out.below hb)
    have HBw11 := Lib.hid (HBw10.out.trans (hb.mono HBw10.out.size))
    clear hb H0w10 H1w10 HRmw10 HBw10
    generalize w10.drewN n11 = w11 at *
    refine hK.out _ _ ((HS.out _ H0w11.out)) (fun hHeld => ?_)
    clear hK K
    refine norm_ (a' := ?_) ?_ ?_
    rotate_left
    · show Act.put _ (some 58) _ = _
      simp only [Act.put, List.setIfInBounds_toArray, List.set_cons_zero, List.set_cons_succ, i64_w, i32_w]
      rfl
    refine pure_ (i := 18) (N := some 63) (v := ?_) (a' := ?_) #[true, true, true, true, true, true, true, true, true, true, true, true, true, true, true, true, true, true, true, false, false, false, false, false, false, false, false] rfl rfl (by kernel_rfl) (fun _ _ _ h => h) (Or.inl ⟨by rfl, ?_⟩) ?_ ?_
    rotate_left
    · intro w'
      go_simp
      with_reducible rfl
    rotate_left
    · simp only [Act.put, List.setIfInBounds_toArray, List.set_cons_zero, List.set_cons_succ, i64_w, i32_w]
      rfl
    refine pure_ (i := 19) (N := some 64) (v := ?_) (a' := ?_) #[true, true, true, true, true, true, true, true, true, true, true, true, true, true, true, true, true, true, true, true, false, false, false, false, false, false, false] rfl rfl (by kernel_rfl) (fun _ _ _ h => h) (Or.inl ⟨by rfl, ?_⟩) ?_ ?_
    rotate_left
    · intro w'
      go_simp
      with_reducible rfl
    rotate_left
    · simp only [Act.put, List.setIfInBounds_toArray, List.set_cons_zero, List.set_cons_succ, i64_w, i32_w]
      rfl
    refine pure_ (i := 20) (N := some 65) (v := ?_) (a' := ?_) #[true, true, true, true, true, true, true, true, true, true, true, true, true, true, true, true, true, true, true, true, true, false, false, false, false, false, false] rfl rfl (by kernel_rfl) (fun _ _ _ h => h) (Or.inl ⟨by rfl, ?_⟩) ?_ ?_
    rotate_left
    · intro w'
      go_simp
      with_reducible rfl
    rotate_left
    · simp only [Act.put, List.setIfInBounds_toArray, List.set_cons_zero, List.set_cons_succ, i64_w, i32_w]
      rfl
    refine pure_ (i := 21) (N := some 66) (v := ?_) (a' := ?_) #[true, true, true, true, true, true, true, true, true, true, true, true, true, true, true, true, true, true, true, true, true, true, false, false, false, false, false] rfl rfl (by kernel_rfl) (fun _ _ _ h => h) (Or.inl ⟨by rfl, ?_⟩) ?_ ?_
    rotate_left
    · intro w'
      go_simp
      with_reducible rfl
    rotate_left
    · simp only [Act.put, List.setIfInBounds_toArray, List.set_cons_zero, List.set_cons_succ, i64_w, i32_w]
      rfl
    refine pure_ (i := 22) (N := some 67) (v := ?_) (a' := ?_) #[true, true, true, true, true, true, true, true, true, true, true, true, true, true, true, true, true, true, true, true, true, true, true, false, false, false, false] rfl rfl (by kernel_rfl) (fun _ _ _ h => h) (Or.inl ⟨by rfl, ?_⟩) ?_ ?_
    rotate_left
    · intro w'
      go_simp
      with_reducible rfl
    rotate_left
    · simp only [Act.put, List.setIfInBounds_toArray, List.set_cons_zero, List.set_cons_succ, i64_w, i32_w]
      rfl
    refine one_ (i := 23) (N := some 68) #[true, true, true, true, true, true, true, true, true, true, true, true, true, true, true, true, true, true, true, true, true, true, true, true, false, false, false] rfl rfl (by kernel_rfl) (by decide) (fun K hK => ?_)
    refine goes_ Try.func22 (by kernel_rfl) rfl #[.slice A0 l0.length c0] (by rfl) rfl rfl (by simp only [List.map_toArray, List.map_cons, List.map_nil]; rfl) ?_
    with_reducible refine (PA.ciboriumref00_CopyBytes.calls A0 c0 l0 l0 _ H0w11.out hc0 (copy_f l0 (by omega))).mono ?_
    rintro e w12 ⟨v12, rfl, hR12, hb12⟩
    refine ⟨_, rfl, ?_⟩
    obtain ⟨A12, c12, rfl, hc12, hC12⟩ := (Row.of_R hR12).reads
    have H12 := Lib.hid hC12
    clear hR12 hC12
    have hb := hb12
    have H0w12 := Lib.hid (Kd.C_below H0w11.out hb)
    have H1w12 := Lib.hid (Kd.C_below H1w11.out hb)
    have HRmw12 := Lib.hid (HRmw11.out.below hb)
    have HBw12 := Lib.hid (HBw11.out.trans (hb.mono HBw11.out.size))
    clear hb H0w11 H1w11 HRmw11 HBw11
    clear hb12
    refine hK.out _ _ ((HS.out _ H0w12.out)) (fun hHeld => ?_)
    clear hK K
    refine norm_ (a' := ?_) ?_ ?_
    rotate_left
    · show Act.put _ (some 68) _ = _
      simp only [Act.put, List.setIfInBounds_toArray, List.set_cons_zero, List.set_cons_succ, i64_w, i32_w]
      rfl
    refine one_ (i := 24) (N := some 69) #[true, true, true, true, true, true, true, true, true, true, true, true, true, true, true, true, true, true, true, true, true, true, true, true, true, false, false] rfl rfl (by kernel_rfl) (by decide) (fun K hK => ?_)
    refine goes_ Try.func43 (by kernel_rfl) rfl #[.slice A1 l0.length c1, .slice A12 l0.length c12] (by rfl) rfl rfl (by simp only [List.map_toArray, List.map_cons, List.map_nil]; rfl) ?_
    with_reducible refine (equalC A1 c1 l0.length l0 A12 c12 l0.length l0 _ rfl rfl H1w12.out hc1 H12.out hc12 HB0.out HB0.out (by omega)).mono ?_
    rintro e w' ⟨rfl, n13, rfl⟩
    refine ⟨_, rfl, ?_⟩
    rw [show decide (l0 = l0) = true by simp]
    have hb := pw_below_drewN (Below.refl w12.heap.size w12) n13
    have H0w13 := Lib.hid (Kd.C_below H0w12.out hb)
    have H1w13 := Lib.hid (Kd.C_below H1w12.out hb)
    have HRmw13 := Lib.hid (HRmw12.out.below hb)
    have HBw13 := Lib.hid (HBw12.out.trans (hb.mono HBw12.out.size))
    clear hb H0w12 H1w12 HRmw12 HBw12
    generalize w12.drewN n13 = w13 at *
    refine hK.out _ _ ((HS.out _ H0w13.out)) (fun hHeld => ?_)
    clear hK K
    refine norm_ (a' := ?_) ?_ ?_
    rotate_left
    · show Act.put _ (some 69) _ = _
      simp only [Act.put, List.setIfInBounds_toArray, List.set_cons_zero, List.set_cons_succ, i64_w, i32_w]
      rfl
    refine pure_ (i := 25) (N := some 70) (v := ?_) (a' := ?_) #[true, true, true, true, true, true, true, true, true, true, true, true, true, true, true, true, true, true, true, true, true, true, true, true, true, true, false] rfl rfl (by kernel_rfl) (fun _ _ _ h => h) (Or.inl ⟨by rfl, ?_⟩) ?_ ?_
    rotate_left
    · intro w'
      go_simp
      with_reducible rfl
    rotate_left
    · simp only [Act.put, List.setIfInBounds_toArray, List.set_cons_zero, List.set_cons_succ, i64_w, i32_w]
      rfl
    refine pure_ (i := 26) (N := some 71) (v := ?_) (a' := ?_) #[true, true, true, true, true, true, true, true, true, true, true, true, true, true, true, true, true, true, true, true, true, true, true, true, true, true, true] rfl rfl (by kernel_rfl) (fun _ _ _ h => h) (Or.inl ⟨by rfl, ?_⟩) ?_ ?_
    rotate_left
    · intro w'
      go_simp
      with_reducible rfl
    rotate_left
    · simp only [Act.put, List.setIfInBounds_toArray, List.set_cons_zero, List.set_cons_succ, i64_w, i32_w]
      rfl
    refine done_ (by kernel_rfl) ?_
    -- behind it
    go_wp2_with fail
    refine (Room.kept_calls _ _ A0 c0 l0 _ HRmw13.out H0w13.out hc0).mono ?_
    rintro e w14 ⟨rfl, n14, rfl⟩
    go_wp2_with fail
    refine (Works.works _).mono ?_
    rintro e w15 ⟨rfl, hb⟩
    have HB15 := pw_below_drewN HBw13.out n14
    have HB16 := Lib.hid (HB15.trans (hb.mono HB15.size))
    clear hb HB15
    go_wp2
    go_ret
    exact ⟨rfl, HB16.out⟩
end Go.Proofs.Ytengdchgfhcdhaa.HOctetHex
