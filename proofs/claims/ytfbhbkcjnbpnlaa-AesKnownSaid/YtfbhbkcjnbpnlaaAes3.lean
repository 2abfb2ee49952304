/- What is said here: what the step mix of AES makes of a block on its way; unmix is it three times. -/
import Derived.Test.YtfbhbkcjnbpnlaaAes2
import Derived.Test.YtfbhbkcjnbpnlaaPAx1
import Derived.Laws.Cover3
namespace Go.Proofs.Ytfbhbkcjnbpnlaa.Aes
set_option linter.unusedVariables false
set_option linter.unusedSimpArgs false
open Go.RowKit Go.Proofs.YtfbhbkcjnbpnlaaW.PrintWords Go.Proofs.YtfbhbkcjnbpnlaaW.PrintLast Go.Proofs.YtfbhbkcjnbpnlaaW.PrintMore
open Gf Gfi Poly
theorem ld4 (x : Value) : Instr.loadAt 40 x = Blk.ld 40 x := rfl
theorem st4 (x v : Value) : Instr.storeAt 40 x v = Blk.st 40 x v := rfl
attribute [local go_sem ↓] ld4 st4

def mixS (st : Nat → B) : Nat → B := fun q => st q ^^^ ((((st (q / 4 * 4) ^^^ st (q / 4 * 4 + 1)) ^^^ st (q / 4 * 4 + 2)) ^^^ st (q / 4 * 4 + 3)) ^^^ xt (st q ^^^ st (q / 4 * 4 + (q + 1) % 4)))
theorem st4_new (w : World) (f : Nat → B) : (Blk.st 40 (.pointer (some ⟨w.heap.size, 0, none⟩)) (.agg (cB 4 f))).run Try.prog (w.alloc (.cells #[.int .u8 0, .int .u8 0, .int .u8 0, .int .u8 0] 40)) = .ok () (w.alloc (.cells (cB 4 f) 40)) :=
  run_storeAt_new w 40 _ _ (by rw [cB_size]; kernel_rfl) (by rw [cB_size]; rfl) (cB_one 4 f)
theorem cB4_cell {W : World} {b : Nat} {f : Nat → B} {T : TypeId} (h : Blk.Is W b (cB 4 f) T) (i : Nat) (hi : i < 4) : W.cell? ⟨b, i, none⟩ = some (.int .u8 (ofB (f i))) := by rw [h.cell, cB_get _ _ _ hi]
theorem double_calls (x : B) (w : World) : Calls Try.prog 32 #[.int .u8 (ofB x)] w fun e w' => e = .returned (.int .u8 (ofB (xt x))) ∧ Drawn0 w w' :=
  PA.aes_double.calls (ofB x) (ofB (xt x)) w (by unfold PA.aes_double.f; rw [dbl_ofB])

theorem cut4 (s c : Nat) (h : c ≤ 12) (W : World) : (Instr.sliceAt 23 (.pointer (some ⟨s, 0, none⟩)) (some (.int .i64 (c : Int))) (some (.int .i64 ((c : Int) + 4))) none).run Try.prog W = .ok (.slice (some ⟨s, c, none⟩) 4 (16 - c)) W := by
  have hl : Try.prog.arrayLen 23 = 16 := by kernel_rfl
  have hs : (sizeOf (Try.prog.elem 23)).run Try.prog W = .ok 1 W := by kernel_rfl
  rw [run_sliceAt_array_lh W 23 ⟨s, 0, none⟩ (by kernel_rfl) .i64 .i64 (c : Int) ((c : Int) + 4) (by omega) (by omega) (by rw [hl]; omega), hs, hl]
  have e1 : ((c : Int) + 4).toNat = c + 4 := by omega
  simp only [Result.andThen, slicedAt, e1, Int.toNat_natCast]
  rw [if_neg (by omega), Nat.mul_one, Nat.add_sub_cancel_left, Addr.add_mid, Nat.zero_add]
theorem arr4 (a : Addr) (n : Nat) (W : World) : (Instr.arrayAt 40 (.slice (some a) 4 n)).run Try.prog W = .ok (.pointer (some a)) W := run_arrayAt W 40 5 4 (some a) 4 n Try.underlying40 (Nat.le_refl 4)

set_option maxRecDepth 100000 in
theorem mix_last (s kb : Nat) (K st : Nat → B) (w : World) (h : St w s kb K st 14) :
    Calls Try.prog 22 #[.pointer (some ⟨s, 0, none⟩)] w fun e w' => e = .returned (.tuple #[]) ∧ w' = w := by
  have x17 : w.cell? ⟨s, 17, none⟩ = some (.int .i64 14) := h.round
  clear h
  go_enter Try.func22, Try.ntmps22
  go_wp2
  refine bodyPost_ret (results_none rfl _ _ _) rfl ?_
  exact ⟨rfl, rfl⟩
set_option maxRecDepth 100000 in
set_option maxHeartbeats 2000000 in
theorem mix_calls (s kb r : Nat) (K st : Nat → B) (w : World) (h : St w s kb K st r) (hr : r ≠ 14) :
    Calls Try.prog 22 #[.pointer (some ⟨s, 0, none⟩)] w fun e w' => e = .returned (.tuple #[]) ∧ St w' s kb K (mixS st) r ∧ Keeps s w w' := by
  have x17 := h.round
  have hrb : ((r : Int) == 14) = false := beq_eq_false_iff_ne.mpr (by omega)
  have H := Lib.hid h
  clear h hr
  go_enter Try.func22, Try.ntmps22
  go_wp2_with fail
  clear x17
  go_loopw [2, 3, 4, 5, 35] (fun v2 v3 v4 v5 v35 wr => ∃ (c : Nat), c ≤ 16 ∧ v2 = .int .i64 (c : Int) ∧ Hid (c % 4 = 0) ∧ Hid (St wr s kb K (upto id (mixS st) st c) r) ∧ Hid (Keeps s w wr)) (fun v2 _ _ _ _ _ => 16 - (intOf v2).toNat)
  case atStart => exact ⟨0, by omega, rfl, rfl, H.out.congr (fun q _ => upto_zero _ _ _ q), Keeps.refl _ _⟩
  case round =>
    clear H
    obtain ⟨c, hc, rfl, HC, HS, HB⟩ := hrel
    by_cases hlt : c < 16
    · have hc12 : c ≤ 12 := by have := HC.out; omega
      have hl4 := ld_mid HS.out.b 40 c 4 (fun i => st (c + i)) _ (fun j hj => by rw [stA_get _ _ _ _ (by omega)]; unfold upto; rw [if_neg (by show ¬ id (c + j) < c; simp)]) Try.underlying40 rfl (by kernel_rfl)
      have hsl := cut4 s c hc12 wr
      have har := arr4 ⟨s, c, none⟩ (16 - c) wr
      have hst := st4_new wr (fun i => st (c + i))
      have HG := Lib.hid (Blk.Is.new wr (cB 4 (fun i => st (c + i))) 40)
      have HS1 := Lib.hid (HS.out.alloc (.cells (cB 4 (fun i => st (c + i))) 40))
      have HB1 : Hid (Keeps s w (wr.alloc (.cells (cB 4 (fun i => st (c + i))) 40))) := HB.out.alloc (by have := HS.out.b.lt; omega) _
      have HN : Hid (wr.heap.size ≠ s) := fun e => by have := HS.out.b.lt; omega
      have a0 : (wr.alloc (.cells (cB 4 (fun i => st (c + i))) 40)).cell? ⟨wr.heap.size, 0, none⟩ = some (.int .u8 (ofB (st c))) := cB4_cell HG.out 0 (by decide)
      have a1 := cB4_cell HG.out 1 (by decide)
      have a2 := cB4_cell HG.out 2 (by decide)
      have a3 := cB4_cell HG.out 3 (by decide)
      have x1 := bits_xor (st c) (st (c + 1))
      have x2 := bits_xor (st c ^^^ st (c + 1)) (st (c + 2))
      have x3 := bits_xor ((st c ^^^ st (c + 1)) ^^^ st (c + 2)) (st (c + 3))
      have HAL : Hid (((st c ^^^ st (c + 1)) ^^^ st (c + 2)) ^^^ st (c + 3) = ((st c ^^^ st (c + 1)) ^^^ st (c + 2)) ^^^ st (c + 3)) := rfl
      go_wp2_with fail
      clear hl4 hsl har hst a0 a1 a2 a3 x1 x2 x3
      generalize wr.alloc (.cells (cB 4 (fun i => st (c + i))) 40) = wi at *
      generalize wr.heap.size = g at *
      obtain ⟨al, hal⟩ : ∃ al, al = ((st c ^^^ st (c + 1)) ^^^ st (c + 2)) ^^^ st (c + 3) := ⟨_, rfl⟩
      rw [← hal]
      have HAL2 := Lib.hid hal
      clear hal HS HB HAL
      go_loopw [5, 35] (fun v5 v35 wl => ∃ (rr : Nat), rr ≤ 4 ∧ v35 = .int .i64 (rr : Int) ∧ Hid (St wl s kb K (upto id (mixS st) st (c + rr)) r) ∧ Hid (Blk.Is wl g (cB 4 (fun i => st (c + i))) 40) ∧ Hid (Keeps s w wl)) (fun _ v35 _ => 4 - (intOf v35).toNat)
      case atStart => exact ⟨0, by omega, rfl, HS1.out, HG, HB1⟩
      case round =>
        clear HS1 HG HB1
        obtain ⟨rr, hrr, rfl, HS, HG, HB⟩ := hrel
        by_cases hl : rr < 4
        · obtain ⟨q, hq⟩ : ∃ q, q = c + rr := ⟨_, rfl⟩
          obtain ⟨z, hz⟩ : ∃ z, z = (rr + 1) % 4 := ⟨_, rfl⟩
          have hq16 : q < 16 := by omega
          have hz4 : z < 4 := by omega
          have w1f : IntKind.i64.wrap ((c : Int) + (rr : Int)) = (q : Int) := by rw [hq, IntWalk.i64_in _ (by omega)]; omega
          have w3f : Int.tmod (wrap64 ((rr : Int) + 1)) 4 = (z : Int) := by rw [IntWalk.wrap64_in _ (by omega), hz]; rfl
          have hqI : (q : Int) < 16 := by omega
          have hzI : (z : Int) < 4 := by omega
          have hmx : mixS st q = st q ^^^ (al ^^^ xt (st (c + rr) ^^^ st (c + z))) := by
            have hc4 : q / 4 * 4 = c := by have := HC.out; omega
            have hz2 : (q + 1) % 4 = z := by have := HC.out; omega
            unfold mixS
            rw [hc4, hz2, ← HAL2.out, hq]
          have HMX := Lib.hid hmx
          have hcur : upto id (mixS st) st (c + rr) q = st q := upto_self id _ _ q _ hq
          have HNX : Hid (∀ W, St W s kb K (upto id (mixS st) st (c + rr)) r → St (W.setCell ⟨s, q, none⟩ (.int .u8 (ofB (mixS st q)))) s kb K (upto id (mixS st) st (c + (rr + 1))) r) := fun W h => (h.set q hq16 (mixS st q)).congr (fun p hp => by
            have := upto_next id (mixS st) st (c + rr) q hq (fun p _ h => by rw [hq]; exact h) p hp
            exact this)
          have HGN : Hid (∀ W v, Blk.Is W g (cB 4 (fun i => st (c + i))) 40 → Blk.Is (W.setCell ⟨s, q, none⟩ v) g (cB 4 (fun i => st (c + i))) 40) := fun W v h => h.other (by exact HN.out) v
          have HF : Hid (wr.cell? ⟨s, q, none⟩ = some (.int .u8 (ofB (st q))) ∧ wr.cell? ⟨g, rr, none⟩ = some (.int .u8 (ofB (st (c + rr)))) ∧ wr.cell? ⟨g, z, none⟩ = some (.int .u8 (ofB (st (c + z))))) := ⟨by rw [← hcur]; exact HS.out.at_ q hq16, cB4_cell HG.out rr hl, cB4_cell HG.out z hz4⟩
          have x1f := bits_xor (st (c + rr)) (st (c + z))
          have x2f := bits_xor al (xt (st (c + rr) ^^^ st (c + z)))
          have x3f := bits_xor (st q) (al ^^^ xt (st (c + rr) ^^^ st (c + z)))
          rw [← hmx] at x3f
          clear hmx hcur hq hz
          generalize mixS st q = mq at *
          generalize st q = y at *
          generalize st (c + rr) = u at *
          generalize st (c + z) = v at *
          go_wp2_with fail
          -- region 9
          refine start_ (n := 25) (S := fun w' => w'.cell? ⟨s, q, none⟩ = some (.int .u8 (ofB y)) ∧ w'.cell? ⟨g, rr, none⟩ = some (.int .u8 (ofB u)) ∧ w'.cell? ⟨g, z, none⟩ = some (.int .u8 (ofB v))) (ds := [24]) #[false, false, false, false, false, false, false, false, false, false, false, false, false, false, false, false, false, false, false, false, false, false, false, false, false] (by kernel_rfl) rfl rfl ⟨HF.out.1, HF.out.2.1, HF.out.2.2⟩ (fun hHeld => ?_)
          have HS2 := Lib.hid HS.out.drew
          have HG2 := Lib.hid HG.out.drew
          have HB2 := Lib.hid (HB.out.drew)
          have HF2 : Hid (wr.drew.cell? ⟨s, q, none⟩ = some (.int .u8 (ofB y)) ∧ wr.drew.cell? ⟨g, rr, none⟩ = some (.int .u8 (ofB u)) ∧ wr.drew.cell? ⟨g, z, none⟩ = some (.int .u8 (ofB v))) := HF.out
          clear HS HG HB HF
          generalize wr.drew = w2 at *
          refine pure_ (i := 0) (N := some 38) (v := ?_) (a' := ?_) #[true, false, false, false, false, false, false, false, false, false, false, false, false, false, false, false, false, false, false, false, false, false, false, false, false] rfl rfl (by kernel_rfl) (fun _ _ _ h => h) (Or.inl ⟨by rfl, ?_⟩) ?_ ?_
          rotate_left
          · intro w'
            go_simp
            with_reducible rfl
          rotate_left
          · simp only [Act.put, List.setIfInBounds_toArray, List.set_cons_zero, List.set_cons_succ, i64_w, i32_w]
            rfl
          refine pure_ (i := 1) (N := some 39) (v := ?_) (a' := ?_) #[true, true, false, false, false, false, false, false, false, false, false, false, false, false, false, false, false, false, false, false, false, false, false, false, false] rfl rfl (by kernel_rfl) (fun _ _ _ h => h) (Or.inl ⟨by rfl, ?_⟩) ?_ ?_
          rotate_left
          · intro w'
            go_simp
            with_reducible rfl
          rotate_left
          · simp only [Act.put, List.setIfInBounds_toArray, List.set_cons_zero, List.set_cons_succ, i64_w, i32_w]
            rfl
          refine pure_ (i := 2) (N := some 40) (v := ?_) (a' := ?_) #[true, true, true, false, false, false, false, false, false, false, false, false, false, false, false, false, false, false, false, false, false, false, false, false, false] rfl rfl (by kernel_rfl) (fun _ _ _ h => h) (Or.inl ⟨by rfl, ?_⟩) ?_ ?_
          rotate_left
          · intro w'
            go_simp
            with_reducible rfl
          rotate_left
          · simp only [Act.put, List.setIfInBounds_toArray, List.set_cons_zero, List.set_cons_succ, i64_w, i32_w]
            rfl
          refine pure_ (i := 3) (N := some 41) (v := ?_) (a' := ?_) #[true, true, true, true, false, false, false, false, false, false, false, false, false, false, false, false, false, false, false, false, false, false, false, false, false] rfl rfl (by kernel_rfl) (fun _ _ _ h => h) (Or.inl ⟨by rfl, ?_⟩) ?_ ?_
          rotate_left
          · intro w'
            go_simp
            with_reducible rfl
          rotate_left
          · simp only [Act.put, List.setIfInBounds_toArray, List.set_cons_zero, List.set_cons_succ, i64_w, i32_w]
            rfl
          refine pure_ (i := 4) (N := some 42) (v := ?_) (a' := ?_) #[true, true, true, true, true, false, false, false, false, false, false, false, false, false, false, false, false, false, false, false, false, false, false, false, false] rfl rfl (by kernel_rfl) (fun _ _ _ h => h) (Or.inl ⟨by rfl, ?_⟩) ?_ ?_
          rotate_left
          · intro w'
            go_simp
            with_reducible rfl
          rotate_left
          · simp only [Act.put, List.setIfInBounds_toArray, List.set_cons_zero, List.set_cons_succ, i64_w, i32_w]
            rfl
          refine pure_ (i := 5) (N := some 43) (v := ?_) (a' := ?_) #[true, true, true, true, true, true, false, false, false, false, false, false, false, false, false, false, false, false, false, false, false, false, false, false, false] rfl rfl (by kernel_rfl) (fun _ _ _ h => h) (Or.inl ⟨by rfl, ?_⟩) ?_ ?_
          rotate_left
          · intro w'
            go_simp
            with_reducible rfl
          rotate_left
          · simp only [Act.put, List.setIfInBounds_toArray, List.set_cons_zero, List.set_cons_succ, i64_w, i32_w]
            rfl
          refine pure_ (i := 6) (N := some 44) (v := ?_) (a' := ?_) #[true, true, true, true, true, true, true, false, false, false, false, false, false, false, false, false, false, false, false, false, false, false, false, false, false] rfl rfl (by kernel_rfl) (fun _ _ _ h => h) (Or.inl ⟨by rfl, ?_⟩) ?_ ?_
          rotate_left
          · intro w'
            go_simp
            with_reducible rfl
          rotate_left
          · simp only [Act.put, List.setIfInBounds_toArray, List.set_cons_zero, List.set_cons_succ, i64_w, i32_w]
            rfl
          refine pure_ (i := 8) (N := some 46) (v := ?_) (a' := ?_) #[true, true, true, true, true, true, true, false, true, false, false, false, false, false, false, false, false, false, false, false, false, false, false, false, false] rfl rfl (by kernel_rfl) (fun _ _ _ h => h) (Or.inl ⟨by rfl, ?_⟩) ?_ ?_
          rotate_left
          · intro w'
            go_simp
            with_reducible rfl
          rotate_left
          · simp only [Act.put, List.setIfInBounds_toArray, List.set_cons_zero, List.set_cons_succ, i64_w, i32_w]
            rfl
          refine pure_ (i := 9) (N := some 47) (v := ?_) (a' := ?_) #[true, true, true, true, true, true, true, false, true, true, false, false, false, false, false, false, false, false, false, false, false, false, false, false, false] rfl rfl (by kernel_rfl) (fun _ _ _ h => h) (Or.inl ⟨by rfl, ?_⟩) ?_ ?_
          rotate_left
          · intro w'
            go_simp
            with_reducible rfl
          rotate_left
          · simp only [Act.put, List.setIfInBounds_toArray, List.set_cons_zero, List.set_cons_succ, i64_w, i32_w]
            rfl
          refine pure_ (i := 10) (N := some 48) (v := ?_) (a' := ?_) #[true, true, true, true, true, true, true, false, true, true, true, false, false, false, false, false, false, false, false, false, false, false, false, false, false] rfl rfl (by kernel_rfl) (fun _ _ _ h => h) (Or.inl ⟨by rfl, ?_⟩) ?_ ?_
          rotate_left
          · intro w'
            go_simp
            with_reducible rfl
          rotate_left
          · simp only [Act.put, List.setIfInBounds_toArray, List.set_cons_zero, List.set_cons_succ, i64_w, i32_w]
            rfl
          refine pure_ (i := 12) (N := some 50) (v := ?_) (a' := ?_) #[true, true, true, true, true, true, true, false, true, true, true, false, true, false, false, false, false, false, false, false, false, false, false, false, false] rfl rfl (by kernel_rfl) (fun _ _ _ h => h) (Or.inl ⟨by rfl, ?_⟩) ?_ ?_
          rotate_left
          · intro w'
            go_simp
            with_reducible rfl
          rotate_left
          · simp only [Act.put, List.setIfInBounds_toArray, List.set_cons_zero, List.set_cons_succ, i64_w, i32_w]
            rfl
          refine pure_ (i := 13) (N := some 51) (v := ?_) (a' := ?_) #[true, true, true, true, true, true, true, false, true, true, true, false, true, true, false, false, false, false, false, false, false, false, false, false, false] rfl rfl (by kernel_rfl) (fun _ _ _ h => h) (Or.inl ⟨by rfl, ?_⟩) ?_ ?_
          rotate_left
          · intro w'
            go_simp
            with_reducible rfl
          rotate_left
          · simp only [Act.put, List.setIfInBounds_toArray, List.set_cons_zero, List.set_cons_succ, i64_w, i32_w]
            rfl
          refine pure_ (i := 14) (N := some 52) (v := ?_) (a' := ?_) #[true, true, true, true, true, true, true, false, true, true, true, false, true, true, true, false, false, false, false, false, false, false, false, false, false] rfl rfl (by kernel_rfl) (fun _ _ _ h => h) (Or.inl ⟨by rfl, ?_⟩) ?_ ?_
          rotate_left
          · intro w'
            go_simp
            with_reducible rfl
          rotate_left
          · simp only [Act.put, List.setIfInBounds_toArray, List.set_cons_zero, List.set_cons_succ, i64_w, i32_w]
            rfl
          refine pure_ (i := 15) (N := some 53) (v := ?_) (a' := ?_) #[true, true, true, true, true, true, true, false, true, true, true, false, true, true, true, true, false, false, false, false, false, false, false, false, false] rfl rfl (by kernel_rfl) (fun _ _ _ h => h) (Or.inl ⟨by rfl, ?_⟩) ?_ ?_
          rotate_left
          · intro w'
            go_simp
            with_reducible rfl
          rotate_left
          · simp only [Act.put, List.setIfInBounds_toArray, List.set_cons_zero, List.set_cons_succ, i64_w, i32_w]
            rfl
          refine pure_ (i := 21) (N := some 59) (v := ?_) (a' := ?_) #[true, true, true, true, true, true, true, false, true, true, true, false, true, true, true, true, false, false, false, false, false, true, false, false, false] rfl rfl (by kernel_rfl) (fun _ _ _ h => h) (Or.inl ⟨by rfl, ?_⟩) ?_ ?_
          rotate_left
          · intro w'
            go_simp
            with_reducible rfl
          rotate_left
          · simp only [Act.put, List.setIfInBounds_toArray, List.set_cons_zero, List.set_cons_succ, i64_w, i32_w]
            rfl
          refine pure_ (i := 22) (N := some 60) (v := ?_) (a' := ?_) #[true, true, true, true, true, true, true, false, true, true, true, false, true, true, true, true, false, false, false, false, false, true, true, false, false] rfl rfl (by kernel_rfl) (fun _ _ _ h => h) (Or.inl ⟨by rfl, ?_⟩) ?_ ?_
          rotate_left
          · intro w'
            go_simp
            with_reducible rfl
          rotate_left
          · simp only [Act.put, List.setIfInBounds_toArray, List.set_cons_zero, List.set_cons_succ, i64_w, i32_w]
            rfl
          refine take_ (i := 7) (N := some 45) (v := ?_) (a' := ?_) #[true, true, true, true, true, true, true, true, true, true, true, false, true, true, true, true, false, false, false, false, false, true, true, false, false] rfl rfl (by kernel_rfl) (fun _ _ _ h => h) (Or.inl ⟨by rfl, ?_⟩) hHeld ?_ ?_
          rotate_left
          · rintro w' ⟨s0, s1, s2⟩
            go_simp
            with_reducible rfl
          rotate_left
          · simp only [Act.put, List.setIfInBounds_toArray, List.set_cons_zero, List.set_cons_succ, i64_w, i32_w]
            rfl
          refine take_ (i := 11) (N := some 49) (v := ?_) (a' := ?_) #[true, true, true, true, true, true, true, true, true, true, true, true, true, true, true, true, false, false, false, false, false, true, true, false, false] rfl rfl (by kernel_rfl) (fun _ _ _ h => h) (Or.inl ⟨by rfl, ?_⟩) hHeld ?_ ?_
          rotate_left
          · rintro w' ⟨s0, s1, s2⟩
            go_simp
            with_reducible rfl
          rotate_left
          · simp only [Act.put, List.setIfInBounds_toArray, List.set_cons_zero, List.set_cons_succ, i64_w, i32_w]
            rfl
          refine take_ (i := 16) (N := some 54) (v := ?_) (a' := ?_) #[true, true, true, true, true, true, true, true, true, true, true, true, true, true, true, true, true, false, false, false, false, true, true, false, false] rfl rfl (by kernel_rfl) (fun _ _ _ h => h) (Or.inl ⟨by rfl, ?_⟩) hHeld ?_ ?_
          rotate_left
          · rintro w' ⟨s0, s1, s2⟩
            go_simp
            with_reducible rfl
          rotate_left
          · simp only [Act.put, List.setIfInBounds_toArray, List.set_cons_zero, List.set_cons_succ, i64_w, i32_w]
            rfl
          refine pure_ (i := 17) (N := some 55) (v := ?_) (a' := ?_) #[true, true, true, true, true, true, true, true, true, true, true, true, true, true, true, true, true, true, false, false, false, true, true, false, false] rfl rfl (by kernel_rfl) (fun _ _ _ h => h) (Or.inl ⟨by rfl, ?_⟩) ?_ ?_
          rotate_left
          · intro w'
            go_simp
            with_reducible rfl
          rotate_left
          · simp only [Act.put, List.setIfInBounds_toArray, List.set_cons_zero, List.set_cons_succ, i64_w, i32_w]
            rfl
          refine one_ (i := 18) (N := some 56) #[true, true, true, true, true, true, true, true, true, true, true, true, true, true, true, true, true, true, true, false, false, true, true, false, false] rfl rfl (by kernel_rfl) (by decide) (fun K hK => ?_)
          refine goes_ Try.func32 (by kernel_rfl) rfl #[.int .u8 (ofB (u ^^^ v))] (by rfl) rfl rfl (by simp only [List.map_toArray, List.map_cons, List.map_nil]; rfl) ?_
          with_reducible refine (double_calls (u ^^^ v) w2).mono ?_
          rintro e w3 ⟨rfl, nd, rfl⟩
          refine ⟨_, rfl, ?_⟩
          have HS3 := Lib.hid (HS2.out.drewN nd)
          have HG3 := Lib.hid (HG2.out.drewN nd)
          have HB3 := Lib.hid (HB2.out.drewN nd)
          have HF3 : Hid ((w2.drewN nd).cell? ⟨s, q, none⟩ = some (.int .u8 (ofB y)) ∧ (w2.drewN nd).cell? ⟨g, rr, none⟩ = some (.int .u8 (ofB u)) ∧ (w2.drewN nd).cell? ⟨g, z, none⟩ = some (.int .u8 (ofB v))) := HF2.out
          clear HS2 HG2 HB2 HF2
          generalize w2.drewN nd = w3 at *
          refine hK.out _ _ ⟨(HF3.out.1), (HF3.out.2.1), (HF3.out.2.2)⟩ (fun hHeld => ?_)
          clear hK K
          refine norm_ (a' := ?_) ?_ ?_
          rotate_left
          · show Act.put _ (some 56) _ = _
            simp only [Act.put, List.setIfInBounds_toArray, List.set_cons_zero, List.set_cons_succ, i64_w, i32_w]
            rfl
          refine pure_ (i := 19) (N := some 57) (v := ?_) (a' := ?_) #[true, true, true, true, true, true, true, true, true, true, true, true, true, true, true, true, true, true, true, true, false, true, true, false, false] rfl rfl (by kernel_rfl) (fun _ _ _ h => h) (Or.inl ⟨by rfl, ?_⟩) ?_ ?_
          rotate_left
          · intro w'
            go_simp
            with_reducible rfl
          rotate_left
          · simp only [Act.put, List.setIfInBounds_toArray, List.set_cons_zero, List.set_cons_succ, i64_w, i32_w]
            rfl
          refine pure_ (i := 20) (N := some 58) (v := ?_) (a' := ?_) #[true, true, true, true, true, true, true, true, true, true, true, true, true, true, true, true, true, true, true, true, true, true, true, false, false] rfl rfl (by kernel_rfl) (fun _ _ _ h => h) (Or.inl ⟨by rfl, ?_⟩) ?_ ?_
          rotate_left
          · intro w'
            go_simp
            with_reducible rfl
          rotate_left
          · simp only [Act.put, List.setIfInBounds_toArray, List.set_cons_zero, List.set_cons_succ, i64_w, i32_w]
            rfl
          refine pure_ (i := 23) (N := some 61) (v := ?_) (a' := ?_) #[true, true, true, true, true, true, true, true, true, true, true, true, true, true, true, true, true, true, true, true, true, true, true, true, false] rfl rfl (by kernel_rfl) (fun _ _ _ h => h) (Or.inl ⟨by rfl, ?_⟩) ?_ ?_
          rotate_left
          · intro w'
            go_simp
            with_reducible rfl
          rotate_left
          · simp only [Act.put, List.setIfInBounds_toArray, List.set_cons_zero, List.set_cons_succ, i64_w, i32_w]
            rfl
          refine last_ (i := 24) (N := none) #[true, true, true, true, true, true, true, true, true, true, true, true, true, true, true, true, true, true, true, true, true, true, true, true, true] rfl rfl (by kernel_rfl) (by decide) (fun K hK => ?_)
          have z0 := HF3.out.1
          have f0 := HS3.out.free q
          refine skip_ (w1 := ?_) (by rfl) rfl ?_ ?_
          rotate_left
          · go_simp
            rfl
          refine hK.out _ _ ?_
          clear hK K
          refine done_ (by kernel_rfl) ?_
          -- behind it
          go_wp2
          go_roundw
          case rel => exact ⟨rr + 1, by omega, by go_num, HNX.out _ HS3.out, HGN.out _ _ HG3.out, HB3.out.setCell rfl _⟩
          case measure => simp [intOf]; omega
        · obtain rfl : rr = 4 := by omega
          have HC4 : Hid ((c + 4) % 4 = 0) := by show _ = _; have := HC.out; omega
          go_wp2
          refine ⟨⟨c + 4, by omega, by first | go_num | rfl, HC4, HS, HB⟩, ?_⟩
          simp [intOf]
          omega
    · obtain rfl : c = 16 := by omega
      go_wp2
      go_end0
      exact ⟨rfl, HS.out.congr (fun q hq => upto_end id _ _ 16 q hq), HB.out⟩
/-- mix, whatever the round. -/
def mixR (r : Nat) (st : Nat → B) : Nat → B := if r = 14 then st else mixS st
theorem mix_any (s kb r : Nat) (K st : Nat → B) (w : World) (h : St w s kb K st r) :
    Calls Try.prog 22 #[.pointer (some ⟨s, 0, none⟩)] w fun e w' => e = .returned (.tuple #[]) ∧ St w' s kb K (mixR r st) r ∧ Keeps s w w' := by
  unfold mixR
  by_cases hr : r = 14
  · subst hr
    rw [if_pos rfl]
    refine (mix_last s kb K st w h).mono ?_
    rintro e w' ⟨rfl, rfl⟩
    exact ⟨rfl, h, Keeps.refl _ _⟩
  · rw [if_neg hr]
    exact mix_calls s kb r K st w h hr
def unmixR (r : Nat) (st : Nat → B) : Nat → B := mixR r (mixR r (mixR r st))
set_option maxHeartbeats 1000000 in
theorem unmix_calls (s kb r : Nat) (K st : Nat → B) (w : World) (h : St w s kb K st r) :
    Calls Try.prog 25 #[.pointer (some ⟨s, 0, none⟩)] w fun e w' => e = .returned (.tuple #[]) ∧ St w' s kb K (unmixR r st) r ∧ Keeps s w w' := by
  have H := Lib.hid h
  clear h
  go_enter Try.func25, Try.ntmps25
  go_wp2_with fail
  refine (mix_any s kb r K st _ H.out).mono ?_
  rintro e w1 ⟨rfl, hS, hB⟩
  have HS1 := Lib.hid hS
  have HB1 := Lib.hid hB
  clear hS hB H
  go_wp2_with fail
  refine (mix_any s kb r K _ _ HS1.out).mono ?_
  rintro e w2 ⟨rfl, hS, hB⟩
  have HS2 := Lib.hid hS
  have HB2 : Hid (Keeps s w w2) := HB1.out.trans hB
  clear hS hB HS1 HB1
  go_wp2_with fail
  refine (mix_any s kb r K _ _ HS2.out).mono ?_
  rintro e w3 ⟨rfl, hS, hB⟩
  have HS3 := Lib.hid hS
  have HB3 : Hid (Keeps s w w3) := HB2.out.trans hB
  clear hS hB HS2 HB2
  go_wp2
  go_end0
  exact ⟨rfl, HS3.out, HB3.out⟩
end Go.Proofs.Ytfbhbkcjnbpnlaa.Aes
