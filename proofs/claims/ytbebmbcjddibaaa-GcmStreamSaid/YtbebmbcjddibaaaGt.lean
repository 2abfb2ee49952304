/- What is said here: the program's turn: bytes with the key stream added. -/
import Derived.Test.YtbebmbcjddibaaaGs
import Derived.Test.YtbebmbcjddibaaaRow
namespace Go.Proofs.Ytbebmbcjddibaaa.Gcm
set_option linter.unusedVariables false
set_option linter.unusedSimpArgs false
open Go.RowKit Go.Proofs.YtbebmbcjddibaaaW.PrintWords Go.Proofs.YtbebmbcjddibaaaW.PrintLast Go.Proofs.YtbebmbcjddibaaaW.PrintMore Go.Proofs.Ytbebmbcjddibaaa.PG Gf Gfi Poly AesF Aes Lng
attribute [local go_sem ↓] ld53 st53 ld23 st23
/-- The stream's block as it stands ahead of place i. -/
def curB (E : (Nat → B) → Nat → B) (nonce : Nat → B) (n0 i : Nat) : Nat → B := if i = 0 then z16 else E (ctr nonce (n0 + (i + 15) / 16))
/-- The byte that is told at place j. -/
def outB (E : (Nat → B) → Nat → B) (nonce : Nat → B) (n0 : Nat) (l : List Int) (j : Nat) : Int := ofB (toB (l.getD j 0) ^^^ E (ctr nonce (n0 + j / 16 + 1)) (j % 16))
def outL (E : (Nat → B) → Nat → B) (nonce : Nat → B) (n0 : Nat) (l : List Int) (i : Nat) : List Int := (List.range i).map (outB E nonce n0 l)
theorem outL_succ (E : (Nat → B) → Nat → B) (nonce : Nat → B) (n0 : Nat) (l : List Int) (i : Nat) : outL E nonce n0 l (i + 1) = outL E nonce n0 l i ++ [outB E nonce n0 l i] := by
  unfold outL
  rw [List.range_succ, List.map_append]; rfl
theorem outL_len (E : (Nat → B) → Nat → B) (nonce : Nat → B) (n0 : Nat) (l : List Int) (i : Nat) : (outL E nonce n0 l i).length = i := by simp [outL]
theorem txt_cell {w : World} {A : Option Addr} {c : Nat} {l : List Int} (h : Txt w A c l) (i : Nat) (hi : i < l.length) : ∃ ad, A = some ad ∧ w.cell? (ad.add i) = some (.int .u8 (ofB (toB (l.getD i 0)))) := by
  obtain ⟨_, _, hc⟩ := Kd.reads_of_C (d := (0 : Int)) h.row
  obtain ⟨ad, e, hcell⟩ := hc (by omega)
  refine ⟨ad, e, ?_⟩
  have hm : l.getD i 0 ∈ l := by rw [List.getD_eq_getElem?_getD, List.getElem?_eq_getElem hi]; exact List.getElem_mem hi
  rw [ofB_toB (h.by_ _ hm).1 (h.by_ _ hm).2]
  exact hcell i hi
set_option maxRecDepth 100000 in
set_option maxHeartbeats 4000000 in
theorem turn_calls (gn gc gk : Nat) (K nonce : Nat → B) (E : (Nat → B) → Nat → B) (hE : ∀ (b : Nat → B) (w : World), Calls Try.prog 35 #[.agg (cB 752 K), .agg (cB 16 b)] w fun e w' => e = .returned (.agg (cB 16 (E b))) ∧ Below w.heap.size w w')
    (A : Option Addr) (c : Nat) (l : List Int) (n0 : Nat) (hn0 : n0 < 10) (wb w : World) (hT : Txt wb A c l) (hwb : Below wb.heap.size wb w) (hgn : wb.heap.size ≤ gn) (hgc : wb.heap.size ≤ gc) (hS : Str w gn gc gk K nonce n0) (hl : l.length < 200000) :
    Calls Try.prog 24 #[.slice none 0 0, .slice A l.length c, strV gn gc gk] w fun e w' =>
      ∃ v, e = .returned v ∧ Row.Is w' w.heap.size v (outL E nonce n0 l l.length) ∧ Str w' gn gc gk K nonce (n0 + (l.length + 15) / 16) ∧ Two gn gc w w' := by
  have HT := Lib.hid hT
  have HWB := Lib.hid (show Below wb.heap.size wb w from hwb)
  have HGN := Lib.hid (And.intro hgn hgc)
  have HSZ : Hid (gn < w.heap.size ∧ gc < w.heap.size) := ⟨hS.num.lt, by obtain ⟨cc, h, _⟩ := hS.blk; exact h.lt⟩
  have HL := Lib.hid hl
  have HGK : Hid (gk < w.heap.size) := hS.key.lt
  have HN0 := Lib.hid hn0
  have HS0 : Hid (Str (w.alloc (.cells (cB 16 z16) 37)) gn gc gk K nonce n0) := hS.alloc _
  have HZ0 := Lib.hid (Blk.Is.new w (cB 16 z16) 37)
  have HW0 := Lib.hid ((Two.refl gn gc w).alloc (.cells (cB 16 z16) 37))
  have HR0 := Lib.hid (Row.Is.nil (w.alloc (.cells (cB 16 z16) 37)) (w.heap.size + 1))
  clear hT hwb hgn hgc hS hn0
  unfold strV
  go_enter Try.func24, Try.ntmps24
  go_wp2_with fail
  rw [lit16]
  generalize w.alloc (.cells (cB 16 z16) 37) = w0 at *
  generalize hg : w.heap.size = g at *
  have HG := Lib.hid hg
  clear hg
  go_loopw [0, 8, 9, 12, 13, 14, 15, 16, 17, 18, 19, 20, 21, 22, 23, 24, 25, 26, 27, 28, 29, 30, 31] (fun v0 v8 v9 v12 v13 v14 v15 v16 v17 v18 v19 v20 v21 v22 v23 v24 v25 v26 v27 v28 v29 v30 v31 wr => ∃ (i : Nat), i ≤ l.length ∧ v12 = .int .i64 (i : Int) ∧ Hid (Row.Is wr (g + 1) v0 (outL E nonce n0 l i)) ∧ Hid (Blk.Is wr g (cB 16 (curB E nonce n0 i)) 37) ∧ Hid (Str wr gn gc gk K nonce (n0 + (i + 15) / 16)) ∧ Hid (Two gn gc w wr)) (fun _ _ _ v12 _ _ _ _ _ _ _ _ _ _ _ _ _ _ _ _ _ _ _ _ => l.length - (intOf v12).toNat)
  case atStart => exact ⟨0, by omega, rfl, HR0, HZ0, HS0, HW0⟩
  case round =>
    clear HR0 HZ0 HS0 HW0
    obtain ⟨i, hi_, rfl, HR, HZ, HS, HW⟩ := hrel
    obtain ⟨wo, rfl⟩ : ∃ wo, wo = wr := ⟨_, rfl⟩
    have HTW : Hid (Txt wo A c l) := HT.out.below (HWB.out.trans (HW.out.below _ HGN.out.1 HGN.out.2 HWB.out.size))
    by_cases hlt : i < l.length
    · obtain ⟨ad, rfl, hcell⟩ := txt_cell HTW.out i hlt
      obtain ⟨bx, hbx⟩ : ∃ bx, bx = toB (l.getD i 0) := ⟨_, rfl⟩
      rw [← hbx] at hcell
      have HBX := Lib.hid hbx
      clear hbx HTW
      have hlL := HL.out
      have hn0 := HN0.out
      by_cases h16 : i % 16 = 0
      · have htm : Int.tmod (i : Int) 16 = 0 := by rw [Int.tmod_eq_emod_of_nonneg (by omega)]; omega
        go_wp2_with fail
        refine (next_calls gn gc gk K nonce E hE (n0 + (i + 15) / 16) (by omega) wo HS.out).mono ?_
        rintro e w5 ⟨rfl, hS5, hW5⟩
        rw [show n0 + (i + 15) / 16 + 1 = n0 + i / 16 + 1 by omega] at hS5 ⊢
        obtain ⟨sB, hsB⟩ : ∃ sB, sB = E (ctr nonce (n0 + i / 16 + 1)) := ⟨_, rfl⟩
        rw [← hsB]
        have HSB := Lib.hid hsB
        have HJ := Lib.hid h16
        clear hsB
        have hgn : g ≠ gn := fun e => by have := HSZ.out; have := HG.out; omega
        have hgc : g ≠ gc := fun e => by have := HSZ.out; have := HG.out; omega
        have HZ5 := Lib.hid (hW5.is HZ.out hgn hgc)
        have HR5 := Lib.hid (HR.out.move (fun k hk => hW5.rest k (HR.out.lt k hk).2 (fun e => by have := (HR.out.lt k hk).1; have := HSZ.out; have := HG.out; omega) (fun e => by have := (HR.out.lt k hk).1; have := HSZ.out; have := HG.out; omega)))
        have HW5 := Lib.hid (HW.out.trans hW5)
        have HS5 := Lib.hid hS5
        clear hS5 hW5 HZ HR HW HS hcell
        have hsr := Blk.store_row (P := Try.prog) (t := 37) (cB 16 sB) HZ5.out (by rw [cB_size]; kernel_rfl) (by rw [cB_size, cB_size]) (cB_one _ _)
        have hkp : Keeps g w5 (w5.setRow g (cB 16 sB)) := ⟨Blk.below_setRow (Below.refl _ _) (Nat.le_refl _) _, fun k _ hk => setRow_other w5 g k _ hk⟩
        have HSq := Lib.hid (HS5.out.keeps hkp (fun e => hgn e.symm) (fun e => hgc e.symm) (fun e => by have := HGK.out; have := HG.out; omega))
        have HRq := Lib.hid (HR5.out.move (fun k hk => hkp.rest k (HR5.out.lt k hk).2 (fun e => by have := (HR5.out.lt k hk).1; omega)))
        have HWq := Lib.hid (HW5.out.row (k := g) (by rw [HG.out]; exact Nat.le_refl _) (cB 16 sB))
        have HZq := Lib.hid (HZ5.out.setRow (cB 16 sB))
        clear hkp HS5 HR5 HW5 HZ5 hgn hgc
        have hcs : (w5.setRow g (cB 16 sB)).cell? ⟨g, 0, none⟩ = some (.int .u8 (ofB (sB 0))) := by rw [HZq.out.cell]; exact cB_get 16 sB _ (by omega)
        have hx : Go.bits .xor .u8 (ofB bx) (ofB (sB 0)) = ofB (bx ^^^ sB 0) := bits_xor _ _
        have hbase : g + 1 ≤ (w5.setRow g (cB 16 sB)).heap.size := HZq.out.lt
        have hlen : (outL E nonce n0 l i).length ≤ 100000000000000 := by rw [outL_len]; have := HL.out; omega
        have HV : Hid (ofB (bx ^^^ sB 0) = outB E nonce n0 l i) := by
          rw [HSB.out, HBX.out]
          show _ = ofB (toB (l.getD i 0) ^^^ E (ctr nonce (n0 + i / 16 + 1)) (i % 16))
          rw [HJ.out]
        generalize ofB (bx ^^^ sB 0) = ov at *
        generalize ofB (sB 0) = sv at *
        go_wp2_with (refine Row.append (g + 1) _ _ u0 (outL E nonce n0 l i) ov rfl rfl rfl rfl (by simp [World.setRow]) HRq.out hbase hlen ?_; intro v1 w7 q1 q2 q3 q4)
        have HR7 := Lib.hid q1
        have HZ7 := Lib.hid (HZq.out.below q2 (Nat.lt_succ_self g))
        have HS7 := Lib.hid (HSq.out.under q2 (by have := HSZ.out; have := HG.out; omega) (by have := HSZ.out; have := HG.out; omega) (by have := HGK.out; have := HG.out; omega))
        have HW7 := Lib.hid (HWq.out.under q2 (by have := HG.out; omega))
        clear q1 q2 q3 q4 hcs hx hbase hlen HRq HZq HSq HWq
        go_wp2_with fail
        go_roundw
        case rel =>
          refine ⟨i + 1, by omega, by go_num, ?_, ?_, ?_, HW7⟩
          · rw [outL_succ, ← HV.out]
            exact HR7.out
          · have e : curB E nonce n0 (i + 1) = sB := by
              rw [HSB.out]
              unfold curB
              rw [if_neg (by omega), show (i + 1 + 15) / 16 = i / 16 + 1 by omega, ← Nat.add_assoc]
            rw [e]
            exact HZ7.out
          · rw [show (i + 1 + 15) / 16 = i / 16 + 1 by omega, ← Nat.add_assoc]
            exact HS7.out
        case measure => simp [intOf]; omega
      · obtain ⟨j, hj⟩ : ∃ j : Nat, j = i % 16 := ⟨_, rfl⟩
        have htm : Int.tmod (i : Int) 16 = (j : Int) := by rw [Int.tmod_eq_emod_of_nonneg (by omega)]; omega
        have hz : ((j : Int) == 0) = false := beq_eq_false_iff_ne.mpr (by omega)
        have hj16 : j < 16 := by omega
        have hjI : (j : Int) < 16 := by omega
        have HJ : Hid (i % 16 = j) := hj.symm
        have hi0 : i ≠ 0 := by omega
        obtain ⟨sB, hsB⟩ : ∃ sB, sB = E (ctr nonce (n0 + i / 16 + 1)) := ⟨_, rfl⟩
        have HSB := Lib.hid hsB
        have HZq : Hid (Blk.Is wo g (cB 16 sB) 37) := by
          have h := HZ.out
          unfold curB at h
          rw [if_neg hi0, show n0 + (i + 15) / 16 = n0 + i / 16 + 1 by omega, ← hsB] at h
          exact h
        have HSq : Hid (Str wo gn gc gk K nonce (n0 + i / 16 + 1)) := by
          have h := HS.out
          rw [show n0 + (i + 15) / 16 = n0 + i / 16 + 1 by omega] at h
          exact h
        have HRq := HR
        have HWq := HW
        clear hj hsB HZ HS HR HW hi0
        have hcs : wo.cell? ⟨g, j, none⟩ = some (.int .u8 (ofB (sB j))) := by rw [HZq.out.cell]; exact cB_get 16 sB _ (by omega)
        have hx : Go.bits .xor .u8 (ofB bx) (ofB (sB j)) = ofB (bx ^^^ sB j) := bits_xor _ _
        have hbase : g + 1 ≤ wo.heap.size := HZq.out.lt
        have hlen : (outL E nonce n0 l i).length ≤ 100000000000000 := by rw [outL_len]; have := HL.out; omega
        have HV : Hid (ofB (bx ^^^ sB j) = outB E nonce n0 l i) := by
          rw [HSB.out, HBX.out]
          show _ = ofB (toB (l.getD i 0) ^^^ E (ctr nonce (n0 + i / 16 + 1)) (i % 16))
          rw [HJ.out]
        generalize ofB (bx ^^^ sB j) = ov at *
        generalize ofB (sB j) = sv at *
        go_wp2_with (refine Row.append (g + 1) _ _ u0 (outL E nonce n0 l i) ov rfl rfl rfl rfl rfl HRq.out hbase hlen ?_; intro v1 w7 q1 q2 q3 q4)
        have HR7 := Lib.hid q1
        have HZ7 := Lib.hid (HZq.out.below q2 (Nat.lt_succ_self g))
        have HS7 := Lib.hid (HSq.out.under q2 (by have := HSZ.out; have := HG.out; omega) (by have := HSZ.out; have := HG.out; omega) (by have := HGK.out; have := HG.out; omega))
        have HW7 := Lib.hid (HWq.out.under q2 (by have := HG.out; omega))
        clear q1 q2 q3 q4 hcs hx hbase hlen HRq HZq HSq HWq
        go_wp2_with fail
        go_roundw
        case rel =>
          refine ⟨i + 1, by omega, by go_num, ?_, ?_, ?_, HW7⟩
          · rw [outL_succ, ← HV.out]
            exact HR7.out
          · have e : curB E nonce n0 (i + 1) = sB := by
              rw [HSB.out]
              unfold curB
              rw [if_neg (by omega), show (i + 1 + 15) / 16 = i / 16 + 1 by omega, ← Nat.add_assoc]
            rw [e]
            exact HZ7.out
          · rw [show (i + 1 + 15) / 16 = i / 16 + 1 by omega, ← Nat.add_assoc]
            exact HS7.out
        case measure => simp [intOf]; omega
    · obtain rfl : i = l.length := by omega
      go_wp2_with fail
      go_ret
      exact ⟨_, rfl, HR.out.lower (by have := HG.out; omega), HS.out, HW.out⟩
end Go.Proofs.Ytbebmbcjddibaaa.Gcm
