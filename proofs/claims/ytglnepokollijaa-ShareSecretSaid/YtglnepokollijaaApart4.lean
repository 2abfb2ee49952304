/- What is said here: rows of bytes that share no memory are found apart. -/
import Derived.Test.YtglnepokollijaaApart3
namespace Go.Proofs.Ytglnepokollijaa.Apart
set_option linter.unusedVariables false
set_option linter.unusedSimpArgs false
open Go.RowKit Go.Proofs.Ytglnepokollijaa.Row Go.Proofs.YtglnepokollijaaW.PrintWords Go.Proofs.YtglnepokollijaaW.PrintLast Go.Proofs.YtglnepokollijaaW.PrintMore

theorem copy_f (l : List Int) (h : l.length ≤ 100000000000000) : PA.ciboriumref00_CopyBytes.f l = some l := by
  unfold PA.ciboriumref00_CopyBytes.f
  rw [if_pos (by simp; omega)]
  rfl
theorem eq_f (l : List Int) : PA.ciboriumref00_EqBytes.f l l = some true := by unfold PA.ciboriumref00_EqBytes.f; simp
theorem rep_snoc (b : Int) (j : Nat) (l : List Int) : l ++ List.replicate j b ++ [b] = l ++ List.replicate (j + 1) b := by
  rw [List.append_assoc, ← List.replicate_succ']
theorem tail_cell {W : World} {base g n c : Nat} {l : List Int} {b : Int} (h : Is W base (.slice (some ⟨g, 0, none⟩) n c) (l ++ List.replicate 40 b)) (k : Nat) (hk : k < 40) : W.cell? ⟨g, l.length + k, none⟩ = some (.int .u8 b) := by
  have := (h.cell (l.length + k) (by rw [List.length_append, List.length_replicate]; omega)).1
  rw [this, List.getD_eq_getElem?_getD, List.getElem?_append_right (by omega), Nat.add_sub_cancel_left, List.getElem?_replicate_of_lt hk]
  rfl
/-- What EqBytes tells of a row and its copy, after some draws. -/
theorem eq_quiet {W : World} {A B : Option Addr} {c d : Nat} {l : List Int} (hA : Kd.C (Kd.int .u8) W A l.length l) (hc : l.length ≤ c) (hB : Kd.C (Kd.int .u8) W B l.length l) (hd : l.length ≤ d) (m q : Nat) :
    Calls Try.prog 21 #[.slice A l.length c, .slice B l.length d] (W.drewN (m + q)) fun e w'' => e = .returned (.bool true) ∧ ∃ m2, w'' = W.drewN (m + m2) := by
  refine (PA.ciboriumref00_EqBytes.calls A c l B d l true (W.drewN (m + q)) hA hc hB hd (eq_f l)).mono ?_
  rintro e w' ⟨rfl, ⟨nd, rfl⟩⟩
  exact ⟨rfl, q + nd, by rw [World.drewN_drewN, Nat.add_assoc]⟩
/-- The mark of row i. -/
def mk (i : Nat) : Int := IntKind.u8.wrap ((i : Int) + 1)

set_option maxRecDepth 100000 in
set_option maxHeartbeats 8000000 in
theorem apart (base G n c : Nat) (vs : Nat → Value) (ls : Nat → List Int) (w : World) (hrow : IsV w base (.slice (some ⟨G, 0, none⟩) n c) (rows n vs)) (heach : ∀ q, q < n → Is w base (vs q) (ls q))
    (hun : ∀ p q, p < n → q < n → p ≠ q → ∀ k, (vs p).ownBlock = some k → (vs q).ownBlock ≠ some k) (hb : base ≤ w.heap.size) (hn0 : n ≤ 1000000) (hl : ∀ q, q < n → (ls q).length ≤ 1000000000) :
    Calls Try.prog 15 #[.slice (some ⟨G, 0, none⟩) n c] w fun e w' => e = .returned (.bool true) ∧ Below base w w' := by
  have HR := Lib.hid hrow
  have HE := Lib.hid heach
  have HL := Lib.hid hl
  have HU := Lib.hid hun
  have Hb := Lib.hid hb
  clear hrow heach hl hun hb
  go_enter Try.func15, Try.ntmps15
  go_wp2_with fail
  go_loopw [3, 4] (fun v3 v4 wr => ∃ i : Nat, i ≤ n ∧ v4 = .int .i64 (i : Int) ∧ Hid (∃ us : Nat → Value, IsV wr w.heap.size v3 (rows i us) ∧ ∀ q, q < i → Is wr w.heap.size (us q) (ls q)) ∧ Hid (Below w.heap.size w wr)) (fun _ v4 _ => n - (intOf v4).toNat)
  case atStart => exact ⟨0, by omega, rfl, ⟨fun _ => .slice none 0 0, IsV.nil _ _, fun q h => absurd h (Nat.not_lt_zero q)⟩, Below.refl _ _⟩
  case round =>
    obtain ⟨i, hi, rfl, HW, HB⟩ := hrel
    by_cases hlt : i < n
    · have hcell : wr.cell? ⟨G, i, none⟩ = some (vs i) := (HR.out.below HB.out).at i hlt
      obtain ⟨A, c1, hv, hc1, hC⟩ := ((HE.out i hlt).below HB.out).reads
      rw [hv] at hcell
      have HC0 := Lib.hid (PA.ciboriumref00_CopyBytes.calls A c1 _ _ wr hC hc1 (copy_f _ (Nat.le_trans (HL.out i hlt) (by decide))))
      have hm : (ls i).length ≤ 1000000000 := HL.out i hlt
      clear hv hC
      obtain ⟨us, hus, hue⟩ := HW.out
      have HUS := Lib.hid hus
      have HUE := Lib.hid hue
      clear hus hue HW
      go_wp2_with fail
      refine HC0.out.mono ?_
      rintro e w2 ⟨v2, rfl, hR, hb2⟩
      have hR2 := of_R hR
      obtain ⟨A2, c2, rfl, _⟩ := hR2.reads
      have HR2 : Hid (Is w2 w.heap.size _ _) := hR2.lower HB.out.size
      have HB2 := Lib.hid hb2
      have HUS2 := Lib.hid (HUS.out.below hb2)
      have HB3 : Hid (Below w.heap.size w w2) := HB.out.trans (hb2.mono HB.out.size)
      clear hR hb2 HC0 hR2
      go_wp2_with (refine appendV w.heap.size _ _ u3 _ (rows i us) rfl rfl rfl rfl HUS2.out rfl HB3.out.size (by rw [rows_len]; omega) ?_; intro v3 w3 h1 h2 h3)
      rw [← rows_upd] at h1
      have HB4 : Hid (Below w.heap.size w w3) := HB3.out.trans h2
      have HN : Hid (∃ us : Nat → Value, IsV w3 w.heap.size v3 (rows (i + 1) us) ∧ ∀ q, q < i + 1 → Is w3 w.heap.size (us q) (ls q)) := ⟨_, h1, fun q hq => by
        by_cases h : q = i
        · subst h
          rw [upd_at]
          exact HR2.out.grown h3 (fun k hk e => (HUS2.out).apart HR2.out k e.symm hk)
        · rw [upd_ne _ _ _ _ h]
          exact ((HUE.out q (by omega)).below HB2.out).grown h3 (fun k hk e => (HUS2.out).apart ((HUE.out q (by omega)).below HB2.out) k e.symm hk)⟩
      clear h1 h2 h3 HB3 HB2 HUS HUS2 HUE HR2
      go_wp2
      go_roundw
      case rel => exact ⟨i + 1, by omega, by go_num, HN, HB4⟩
      case measure => simp [intOf]; omega
    · obtain rfl : n = i := by omega
      obtain ⟨us, hus, hue⟩ := HW.out
      have HB1 : Hid (Below base w wr) := HB.out.mono Hb.out
      have HS1 : Hid (St wr base w.heap.size n (.slice (some ⟨G, 0, none⟩) n c) u3 vs us ls) := ⟨HR.out.below HB.out, hus, fun q hq => (HE.out q hq).below HB.out, hue⟩
      have HLie : Hid (Lie w.heap.size wr.heap.size n (.slice (some ⟨G, 0, none⟩) n c) u3 vs us) := ⟨fun k hk => (HR.out.lt k hk).2, fun k hk => hus.lt k hk, fun q hq k hk => ((HE.out q hq).lt k hk).2, fun q hq k hk => (hue q hq).lt k hk, HU.out, HB.out.size⟩
      have HH : Hid (wr.heap.size ≤ wr.heap.size) := Nat.le_refl _
      clear hus hue HW HB HR HE HU hlt hi
      generalize w.heap.size = H at *
      obtain ⟨H2, hH2⟩ : ∃ H2, H2 = wr.heap.size := ⟨_, rfl⟩
      have HH2 := Lib.hid hH2
      rw [← hH2] at HLie
      clear hH2 HH
      go_wp2_with fail
      go_loopw [5, 6, 7, 8] (fun v5 v6 v7 v8 wl => ∃ (i : Nat) (ms : Nat → Value), i ≤ n ∧ v6 = .int .i64 (i : Int) ∧ Hid (St wl base H n (.slice (some ⟨G, 0, none⟩) n c) u3 vs us ls) ∧ Hid (More wl base H2 wl.heap.size i v5 vs ms ls mk) ∧ Hid (Below base w wl) ∧ Hid (H2 ≤ wl.heap.size)) (fun _ v6 _ _ _ => n - (intOf v6).toNat)
      case atStart => exact ⟨0, fun _ => .slice none 0 0, by omega, rfl, HS1, ⟨IsV.nil _ _, fun q h => absurd h (Nat.not_lt_zero q), fun q h => absurd h (Nat.not_lt_zero q)⟩, HB1, Nat.le_of_eq HH2.out⟩
      case round =>
        obtain ⟨i, ms, hi, rfl, HS, HM, HB, HK⟩ := hrel
        by_cases hlt : i < n
        · have hcell : wr.cell? ⟨G, i, none⟩ = some (vs i) := HS.out.row.at i hlt
          have hm : (ls i).length ≤ 1000000000 := HL.out i hlt
          have hby : IntKind.u8.wrap ((i : Int) + 1) = mk i := rfl
          obtain ⟨K, hK⟩ : ∃ K, K = wr.heap.size := ⟨_, rfl⟩
          have HG0 : Hid (Go wr base K (vs i) (vs i) (ls i) (List.replicate 0 (mk i))) := ⟨by rw [List.replicate_zero, List.append_nil]; exact HS.out.each i hlt, .inl rfl⟩
          have HKK := Lib.hid hK
          rw [← hK] at HM HK
          clear hK
          go_wp2_with fail
          go_loopw [7, 8] (fun v7 v8 wl => ∃ (j : Nat), j ≤ 40 ∧ v8 = .int .i64 (j : Int) ∧ Hid (Go wl base K v7 (vs i) (ls i) (List.replicate j (mk i))) ∧ Hid (St wl base H n (.slice (some ⟨G, 0, none⟩) n c) u3 vs us ls) ∧ Hid (More wl base H2 K i u5 vs ms ls mk) ∧ Hid (Below base w wl) ∧ Hid (K ≤ wl.heap.size)) (fun _ v8 _ => 40 - (intOf v8).toNat)
          case atStart => exact ⟨0, by omega, rfl, HG0, HS, HM, HB, Nat.le_of_eq HKK.out⟩
          case round =>
            clear HG0 HS HM HB HKK hcell
            obtain ⟨j, hj, rfl, HG, HS, HM, HB, HKl⟩ := hrel
            by_cases hjl : j < 40
            · have hlen : (ls i ++ List.replicate j (mk i)).length ≤ 100000000000000 := by rw [List.length_append, List.length_replicate]; omega
              have hbw : base ≤ wr.heap.size := by have h1 := Hb.out; have h2 := HLie.out.le; have h3 := HK.out; have h4 := HKl.out; omega
              go_wp2_with (refine appendKeep base _ _ (vs i) u7 (ls i) (List.replicate j (mk i)) (mk i) rfl rfl rfl rfl (HS.out.each i hlt) HG.out.is hbw hlen ?_; intro g1 w1 q1 q2 q3 q4 q5)
              have HG1 : Hid (Go w1 base K g1 (vs i) (ls i) (List.replicate (j + 1) (mk i))) := ⟨by rw [← rep_snoc]; exact q2, by
                rcases q5 with h | ⟨k, h, h2⟩
                · rw [h]; exact HG.out.own
                · exact .inr ⟨k, h, Nat.le_trans HKl.out h2⟩⟩
              have HS1 : Hid (St w1 base H n (.slice (some ⟨G, 0, none⟩) n c) u3 vs us ls) := HS.out.go HG.out HLie.out HK.out hlt Hb.out q4 q1
              have HM1 : Hid (More w1 base H2 K i u5 vs ms ls mk) := HM.out.go HG.out HLie.out HK.out hlt (by have h1 := Hb.out; have h2 := HLie.out.le; omega) q4
              have HB1 : Hid (Below base w w1) := HB.out.trans q3
              have HK1 : Hid (K ≤ w1.heap.size) := Nat.le_trans HKl.out q3.size
              clear q1 q2 q3 q4 q5 HG HS HM HB HKl
              go_wp2
              go_roundw
              case rel => exact ⟨j + 1, by omega, by go_num, HG1, HS1, HM1, HB1, HK1⟩
              case measure => simp [intOf]; omega
            · obtain rfl : j = 40 := by omega
              have hrl : (rows i ms).length ≤ 1000000000 := by rw [rows_len]; omega
              have hbw : H2 ≤ wr.heap.size := Nat.le_trans HK.out HKl.out
              obtain ⟨A7, c7, h7, _, _⟩ := HG.out.is.reads
              generalize hn7 : (ls i ++ List.replicate 40 (mk i)).length = n7 at h7
              clear hn7
              subst h7
              go_wp2_with (refine appendV H2 _ _ u5 (.slice A7 n7 c7) (rows i ms) rfl rfl rfl rfl HM.out.row rfl hbw hrl ?_; intro v1 w1 q1 q2 q3)
              rw [← rows_upd] at q1
              have HS1 : Hid (St w1 base H n (.slice (some ⟨G, 0, none⟩) n c) u3 vs us ls) := HS.out.more HM.out.row HLie.out Hb.out q3
              have HB1 : Hid (Below base w w1) := HB.out.trans (q2.mono (by have h1 := Hb.out; have h2 := HLie.out.le; omega))
              have HK1 : Hid (H2 ≤ w1.heap.size) := Nat.le_trans hbw q2.size
              have hb2 : base ≤ H2 := by have h1 := Hb.out; have h2 := HLie.out.le; omega
              have HM1 : Hid (More w1 base H2 w1.heap.size (i + 1) v1 vs (upd ms i (.slice A7 n7 c7)) ls mk) := ⟨q1, fun q hq => by
                by_cases h : q = i
                · subst h
                  rw [upd_at]
                  exact HG.out.is.grown q3 (fun k hk e => (HM.out.row.low hb2).apart HG.out.is k e.symm hk)
                · rw [upd_ne _ _ _ _ h]
                  exact (HM.out.each q (by omega)).grown q3 (fun k hk e => (HM.out.row.low hb2).apart (HM.out.each q (by omega)) k e.symm hk), fun q hq => by
                have hkw : wr.heap.size ≤ w1.heap.size := q2.size
                by_cases h : q = i
                · subst h
                  rw [upd_at]
                  rcases HG.out.own with h | ⟨k, h, h2⟩
                  · exact .inl h
                  · exact .inr ⟨k, h, Nat.le_trans HK.out h2, Nat.lt_of_lt_of_le (HG.out.is.lt k h).2 hkw⟩
                · rw [upd_ne _ _ _ _ h]
                  rcases HM.out.own q (by omega) with h | ⟨k, h, h1, h2⟩
                  · exact .inl h
                  · exact .inr ⟨k, h, h1, Nat.lt_of_lt_of_le h2 (Nat.le_trans HKl.out hkw)⟩⟩
              clear q1 q2 q3 HG HS HM HB HKl hb2
              go_wp2
              go_roundw
              case rel => exact ⟨i + 1, upd ms i (.slice A7 n7 c7), by omega, by go_num, HS1, HM1, HB1, HK1⟩
              case measure => simp [intOf]; omega
        · obtain rfl : n = i := by omega
          have h5 := HM.out.row.form
          have h3 := HS.out.was.form
          rw [rows_len] at h5 h3
          obtain ⟨A5, c5, h5, h5'⟩ := h5
          obtain ⟨A3, c3, h3, h3'⟩ := h3
          have H5' := Lib.hid h5'
          have H3' := Lib.hid h3'
          clear h5' h3'
          subst h5
          subst h3
          obtain ⟨wt, hwt⟩ : ∃ wt, wt = wr := ⟨_, rfl⟩
          rw [← hwt]
          have HS2 : Hid (St wt base H n (.slice (some ⟨G, 0, none⟩) n c) (.slice A3 n c3) vs us ls) := by rw [hwt]; exact HS
          have HM2 : Hid (More wt base H2 wt.heap.size n (.slice A5 n c5) vs ms ls mk) := by rw [hwt]; exact HM
          have HB2 : Hid (Below base w wt) := by rw [hwt]; exact HB
          clear hwt HS HM HB HK hlt hi HS1 HB1 HH2
          go_wp2_with fail
          go_loopw [9, 10, 11] (fun v9 v10 v11 wl => ∃ (i m : Nat), i ≤ n ∧ v9 = .int .i64 (i : Int) ∧ wl = wt.drewN m) (fun v9 _ _ _ => n - (intOf v9).toNat)
          case atStart => exact ⟨0, 0, by omega, rfl, rfl⟩
          case round =>
            obtain ⟨i, m, hi, rfl, rfl⟩ := hrel
            by_cases hlt : i < n
            · obtain ⟨g5, rfl⟩ := H5'.out (by omega)
              obtain ⟨g3, rfl⟩ := H3'.out (by omega)
              have hcell : wt.cell? ⟨G, i, none⟩ = some (vs i) := HS2.out.row.at i hlt
              have hcel3 : wt.cell? ⟨g3, i, none⟩ = some (us i) := HS2.out.was.at i hlt
              have hcel5 : wt.cell? ⟨g5, i, none⟩ = some (ms i) := HM2.out.row.at i hlt
              obtain ⟨A, cA, hv, hcA, hC⟩ := (HS2.out.each i hlt).reads
              obtain ⟨B, cB, hvB, hcB, hCB⟩ := (HS2.out.eachU i hlt).reads
              obtain ⟨D, cD, hvD, hcD, hCD⟩ := (HM2.out.each i hlt).reads
              have hmi := HM2.out.each i hlt
              rw [hvD] at hmi hcel5
              obtain ⟨gm, rfl, _⟩ := hmi.head (by rw [List.length_append, List.length_replicate]; omega)
              have HT := Lib.hid (tail_cell hmi)
              have HEQ := Lib.hid (eq_quiet hC hcA hCB hcB)
              have hm : (ls i).length ≤ 1000000000 := HL.out i hlt
              have hnm : (ls i ++ List.replicate 40 (mk i)).length = (ls i).length + 40 := by rw [List.length_append, List.length_replicate]
              rw [hv] at hcell
              rw [hvB] at hcel3
              rw [hnm] at hcel5
              have hby : IntKind.u8.wrap ((i : Int) + 1) = mk i := rfl
              clear hv hvB hvD hC hCB hCD hmi hnm hcA hcB hcD
              generalize (ls i).length = L at *
              go_wp2_with fail
              go_loopw [11] (fun v11 wl => ∃ (k m : Nat), k ≤ 40 ∧ v11 = .int .i64 (k : Int) ∧ wl = wt.drewN m) (fun v11 _ => 40 - (intOf v11).toNat)
              case atStart => exact ⟨0, m, by omega, rfl, rfl⟩
              case round =>
                obtain ⟨k, m, hk, rfl, rfl⟩ := hrel
                by_cases hkl : k < 40
                · have hct := HT.out k hkl
                  go_wp2
                  go_roundw
                  case rel => exact ⟨k + 1, m, by omega, by go_num, rfl⟩
                  case measure => simp [intOf]; omega
                · obtain rfl : k = 40 := by omega
                  go_wp2
                  go_quiet (exact HEQ.out _ _)
                  go_wp2
                  go_roundw
                  case rel => exact ⟨i + 1, _, by omega, by go_num, rfl⟩
                  case measure => simp [intOf]; omega
            · obtain rfl : n = i := by omega
              have HR0 : Hid (Rest w (wt.drewN m) base H n 0 (.slice (some ⟨G, 0, none⟩) n c) (.slice A3 n c3) vs us ls) := ⟨HS2.out.row, HS2.out.was, fun q _ hq => HS2.out.each q hq, HS2.out.eachU, pw_below_drewN HB2.out m⟩
              have HV0 : Hid (∀ q, q < n → Is (wt.drewN m) base (vs q) (ls q)) := fun q hq => HS2.out.each q hq
              clear HS2 HM2 HB2 hlt hi H5'
              generalize wt.drewN m = ws at *
              go_wp2_with fail
              go_loopw [2, 12, 13, 14] (fun v2 v12 v13 v14 wl => ∃ (i : Nat), i ≤ n ∧ v12 = .int .i64 (i : Int) ∧ Hid (Rest w wl base H n i (.slice (some ⟨G, 0, none⟩) n c) (.slice A3 n c3) vs us ls) ∧ Hid (∀ q, i ≤ q → q < n → Is wl base (vs q) (ls q))) (fun _ v12 _ _ _ => n - (intOf v12).toNat)
              case atStart => exact ⟨0, by omega, rfl, HR0, fun q _ hq => HV0.out q hq⟩
              case round =>
                clear HR0 HV0
                obtain ⟨i, hi, rfl, HR, HV⟩ := hrel
                by_cases hlt : i < n
                · obtain ⟨g3, rfl⟩ := H3'.out (by omega)
                  have hm : (ls i).length ≤ 1000000000 := HL.out i hlt
                  obtain ⟨A, cA, hv, hcA, hC⟩ := (HV.out i (Nat.le_refl _) hlt).reads
                  have Hv := Lib.hid hv
                  have HI0 : Hid (∃ l : List Int, l.length = (ls i).length ∧ Is wr base (vs i) l) := ⟨_, rfl, HV.out i (Nat.le_refl _) hlt⟩
                  clear hv hC hcA HV
                  obtain ⟨L, hLL⟩ : ∃ L, (ls i).length = L := ⟨_, rfl⟩
                  rw [hLL] at hm HI0 Hv
                  clear hLL
                  go_wp2_with fail
                  go_loopw [13] (fun v13 wl => ∃ (k : Nat), k ≤ L ∧ v13 = .int .i64 (k : Int) ∧ Hid (Rest w wl base H n i (.slice (some ⟨G, 0, none⟩) n c) (.slice (some ⟨g3, 0, none⟩) n c3) vs us ls) ∧ Hid (∃ l : List Int, l.length = L ∧ Is wl base (vs i) l)) (fun v13 _ => L - (intOf v13).toNat)
                  case atStart => exact ⟨0, by omega, rfl, HR, HI0⟩
                  case round =>
                    clear HR HI0
                    obtain ⟨k, hk, rfl, HR, HI⟩ := hrel
                    have hcell : wr.cell? ⟨G, i, none⟩ = some (vs i) := HR.out.row.at i hlt
                    rw [Hv.out] at hcell
                    by_cases hkl : k < L
                    · obtain ⟨l, hl, hI⟩ := HI.out
                      rw [Hv.out] at hI
                      obtain ⟨g, rfl, _⟩ := hI.head (by omega)
                      obtain ⟨ha1, ha2⟩ := hI.cell k (by omega)
                      have HI1 := Lib.hid hI
                      have HO : Hid ((vs i).ownBlock = some g) := by show _ = _; rw [Hv.out]; rfl
                      have HIl := Lib.hid hl
                      clear hI hl HI
                      generalize l.getD k 0 = x at *
                      go_wp2_with fail
                      -- region 33
                      refine start_ (n := 15) (S := fun w' => w'.cell? ⟨G, i, none⟩ = some (.slice (some ⟨g, 0, none⟩) L cA) ∧ w'.cell? ⟨g, k, none⟩ = some (.int .u8 x)) (ds := [14]) #[false, false, false, false, false, false, false, false, false, false, false, false, false, false, false] (by kernel_rfl) rfl rfl ⟨hcell, ha1⟩ (fun hHeld => ?_)
                      refine pure_ (i := 0) (N := some 106) (v := ?_) (a' := ?_) #[true, false, false, false, false, false, false, false, false, false, false, false, false, false, false] rfl rfl (by kernel_rfl) (fun _ _ _ h => h) (Or.inl ⟨by rfl, ?_⟩) ?_ ?_
                      rotate_left
                      · intro w'
                        go_simp
                        with_reducible rfl
                      rotate_left
                      · simp only [Act.put, List.setIfInBounds_toArray, List.set_cons_zero, List.set_cons_succ, i64_w, i32_w]
                        rfl
                      refine pure_ (i := 1) (N := some 107) (v := ?_) (a' := ?_) #[true, true, false, false, false, false, false, false, false, false, false, false, false, false, false] rfl rfl (by kernel_rfl) (fun _ _ _ h => h) (Or.inl ⟨by rfl, ?_⟩) ?_ ?_
                      rotate_left
                      · intro w'
                        go_simp
                        with_reducible rfl
                      rotate_left
                      · simp only [Act.put, List.setIfInBounds_toArray, List.set_cons_zero, List.set_cons_succ, i64_w, i32_w]
                        rfl
                      refine pure_ (i := 2) (N := some 108) (v := ?_) (a' := ?_) #[true, true, true, false, false, false, false, false, false, false, false, false, false, false, false] rfl rfl (by kernel_rfl) (fun _ _ _ h => h) (Or.inl ⟨by rfl, ?_⟩) ?_ ?_
                      rotate_left
                      · intro w'
                        go_simp
                        with_reducible rfl
                      rotate_left
                      · simp only [Act.put, List.setIfInBounds_toArray, List.set_cons_zero, List.set_cons_succ, i64_w, i32_w]
                        rfl
                      refine pure_ (i := 4) (N := some 110) (v := ?_) (a' := ?_) #[true, true, true, false, true, false, false, false, false, false, false, false, false, false, false] rfl rfl (by kernel_rfl) (fun _ _ _ h => h) (Or.inl ⟨by rfl, ?_⟩) ?_ ?_
                      rotate_left
                      · intro w'
                        go_simp
                        with_reducible rfl
                      rotate_left
                      · simp only [Act.put, List.setIfInBounds_toArray, List.set_cons_zero, List.set_cons_succ, i64_w, i32_w]
                        rfl
                      refine pure_ (i := 5) (N := some 111) (v := ?_) (a' := ?_) #[true, true, true, false, true, true, false, false, false, false, false, false, false, false, false] rfl rfl (by kernel_rfl) (fun _ _ _ h => h) (Or.inl ⟨by rfl, ?_⟩) ?_ ?_
                      rotate_left
                      · intro w'
                        go_simp
                        with_reducible rfl
                      rotate_left
                      · simp only [Act.put, List.setIfInBounds_toArray, List.set_cons_zero, List.set_cons_succ, i64_w, i32_w]
                        rfl
                      refine pure_ (i := 6) (N := some 112) (v := ?_) (a' := ?_) #[true, true, true, false, true, true, true, false, false, false, false, false, false, false, false] rfl rfl (by kernel_rfl) (fun _ _ _ h => h) (Or.inl ⟨by rfl, ?_⟩) ?_ ?_
                      rotate_left
                      · intro w'
                        go_simp
                        with_reducible rfl
                      rotate_left
                      · simp only [Act.put, List.setIfInBounds_toArray, List.set_cons_zero, List.set_cons_succ, i64_w, i32_w]
                        rfl
                      refine pure_ (i := 7) (N := some 113) (v := ?_) (a' := ?_) #[true, true, true, false, true, true, true, true, false, false, false, false, false, false, false] rfl rfl (by kernel_rfl) (fun _ _ _ h => h) (Or.inl ⟨by rfl, ?_⟩) ?_ ?_
                      rotate_left
                      · intro w'
                        go_simp
                        with_reducible rfl
                      rotate_left
                      · simp only [Act.put, List.setIfInBounds_toArray, List.set_cons_zero, List.set_cons_succ, i64_w, i32_w]
                        rfl
                      refine pure_ (i := 9) (N := some 115) (v := ?_) (a' := ?_) #[true, true, true, false, true, true, true, true, false, true, false, false, false, false, false] rfl rfl (by kernel_rfl) (fun _ _ _ h => h) (Or.inl ⟨by rfl, ?_⟩) ?_ ?_
                      rotate_left
                      · intro w'
                        go_simp
                        with_reducible rfl
                      rotate_left
                      · simp only [Act.put, List.setIfInBounds_toArray, List.set_cons_zero, List.set_cons_succ, i64_w, i32_w]
                        rfl
                      refine take_ (i := 3) (N := some 109) (v := ?_) (a' := ?_) #[true, true, true, true, true, true, true, true, false, true, false, false, false, false, false] rfl rfl (by kernel_rfl) (fun _ _ _ h => h) (Or.inl ⟨by rfl, ?_⟩) hHeld ?_ ?_
                      rotate_left
                      · rintro w' ⟨s0, s1⟩
                        go_simp
                        with_reducible rfl
                      rotate_left
                      · simp only [Act.put, List.setIfInBounds_toArray, List.set_cons_zero, List.set_cons_succ, i64_w, i32_w]
                        rfl
                      refine take_ (i := 8) (N := some 114) (v := ?_) (a' := ?_) #[true, true, true, true, true, true, true, true, true, true, false, false, false, false, false] rfl rfl (by kernel_rfl) (fun _ _ _ h => h) (Or.inl ⟨by rfl, ?_⟩) hHeld ?_ ?_
                      rotate_left
                      · rintro w' ⟨s0, s1⟩
                        go_simp
                        with_reducible rfl
                      rotate_left
                      · simp only [Act.put, List.setIfInBounds_toArray, List.set_cons_zero, List.set_cons_succ, i64_w, i32_w]
                        rfl
                      refine pure_ (i := 10) (N := some 116) (v := ?_) (a' := ?_) #[true, true, true, true, true, true, true, true, true, true, true, false, false, false, false] rfl rfl (by kernel_rfl) (fun _ _ _ h => h) (Or.inl ⟨by rfl, ?_⟩) ?_ ?_
                      rotate_left
                      · intro w'
                        go_simp
                        with_reducible rfl
                      rotate_left
                      · simp only [Act.put, List.setIfInBounds_toArray, List.set_cons_zero, List.set_cons_succ, i64_w, i32_w]
                        rfl
                      refine take_ (i := 11) (N := some 117) (v := ?_) (a' := ?_) #[true, true, true, true, true, true, true, true, true, true, true, true, false, false, false] rfl rfl (by kernel_rfl) (fun _ _ _ h => h) (Or.inl ⟨by rfl, ?_⟩) hHeld ?_ ?_
                      rotate_left
                      · rintro w' ⟨s0, s1⟩
                        go_simp
                        with_reducible rfl
                      rotate_left
                      · simp only [Act.put, List.setIfInBounds_toArray, List.set_cons_zero, List.set_cons_succ, i64_w, i32_w]
                        rfl
                      refine pure_ (i := 12) (N := some 118) (v := ?_) (a' := ?_) #[true, true, true, true, true, true, true, true, true, true, true, true, true, false, false] rfl rfl (by kernel_rfl) (fun _ _ _ h => h) (Or.inl ⟨by rfl, ?_⟩) ?_ ?_
                      rotate_left
                      · intro w'
                        go_simp
                        with_reducible rfl
                      rotate_left
                      · simp only [Act.put, List.setIfInBounds_toArray, List.set_cons_zero, List.set_cons_succ, i64_w, i32_w]
                        rfl
                      refine pure_ (i := 13) (N := some 119) (v := ?_) (a' := ?_) #[true, true, true, true, true, true, true, true, true, true, true, true, true, true, false] rfl rfl (by kernel_rfl) (fun _ _ _ h => h) (Or.inl ⟨by rfl, ?_⟩) ?_ ?_
                      rotate_left
                      · intro w'
                        go_simp
                        with_reducible rfl
                      rotate_left
                      · simp only [Act.put, List.setIfInBounds_toArray, List.set_cons_zero, List.set_cons_succ, i64_w, i32_w]
                        rfl
                      refine last_ (i := 14) (N := none) #[true, true, true, true, true, true, true, true, true, true, true, true, true, true, true] rfl rfl (by kernel_rfl) (by decide) (fun K hK => ?_)
                      refine skip_ (w1 := ?_) (by rfl) rfl ?_ ?_
                      rotate_left
                      · go_simp
                        rfl
                      refine hK.out _ _ ?_
                      clear hK K
                      refine done_ (by kernel_rfl) ?_
                      -- behind it
                      go_wp2
                      go_roundw
                      case rel =>
                        refine ⟨k + 1, by omega, by go_num, (HR.out.drewN 1).set HLie.out hlt Hb.out HO.out (by rw [Hv.out]; exact HI1.out), ?_⟩
                        show ∃ l : List Int, _
                        apply Exists.intro
                        constructor
                        rotate_left
                        · rw [Hv.out]
                          exact Is.store HI1.out k _
                        · rw [List.length_set]
                          exact HIl.out
                      case measure => simp [intOf]; omega
                    · obtain rfl : k = L := by omega
                      go_wp2_with fail
                      go_loopw [14] (fun v14 wl => ∃ (q m : Nat), i + 1 ≤ q ∧ q ≤ n ∧ v14 = .int .i64 (q : Int) ∧ wl = wr.drewN m) (fun v14 _ => n - (intOf v14).toNat)
                      case atStart => exact ⟨i + 1, 0, by omega, by omega, by go_num, rfl⟩
                      case round =>
                        obtain ⟨q, m, hq1, hq, rfl, rfl⟩ := hrel
                        by_cases hql : q < n
                        · have hcelq : wr.cell? ⟨G, q, none⟩ = some (vs q) := HR.out.row.at q hql
                          have hcel3 : wr.cell? ⟨g3, q, none⟩ = some (us q) := HR.out.was.at q hql
                          obtain ⟨A2, cA2, hv2, hcA2, hC2⟩ := (HR.out.each q (by omega) hql).reads
                          obtain ⟨B2, cB2, hvB2, hcB2, hCB2⟩ := (HR.out.eachU q hql).reads
                          have HEQ := Lib.hid (eq_quiet hC2 hcA2 hCB2 hcB2)
                          rw [hv2] at hcelq
                          rw [hvB2] at hcel3
                          clear hv2 hvB2 hC2 hCB2 hcA2 hcB2 hcell
                          generalize (ls q).length = L2 at *
                          go_wp2
                          go_quiet (exact HEQ.out _ _)
                          go_wp2
                          go_roundw
                          case rel => exact ⟨q + 1, _, by omega, by omega, by go_num, rfl⟩
                          case measure => simp [intOf]; omega
                        · obtain rfl : n = q := by omega
                          go_wp2
                          go_roundw
                          case rel => exact ⟨i + 1, by omega, by go_num, (HR.out.drewN m).next, fun q h1 h2 => HR.out.each q (by omega) h2⟩
                          case measure => simp [intOf]; omega
                · obtain rfl : n = i := by omega
                  go_wp2
                  go_ret
                  exact ⟨rfl, HR.out.below⟩
end Go.Proofs.Ytglnepokollijaa.Apart
