/- What is said here: the document's turned, tag, Seal and Open. -/
import Derived.Test.YtbebmbcjddibaaaGm3
/- What is said here: the document's turned and tag answer as the program's. -/
namespace Go.Proofs.Ytbebmbcjddibaaa.Gcm
set_option linter.unusedVariables false
set_option linter.unusedSimpArgs false
open Go.RowKit Go.Proofs.YtbebmbcjddibaaaW.PrintWords Go.Proofs.YtbebmbcjddibaaaW.PrintLast Go.Proofs.YtbebmbcjddibaaaW.PrintMore Go.Proofs.Ytbebmbcjddibaaa.PG Gf Gfi Poly AesF Aes Lng
theorem ld46 (x : Value) : Instr.loadAt 46 x = Blk.ld 46 x := rfl
theorem st46 (x v : Value) : Instr.storeAt 46 x v = Blk.st 46 x v := rfl
attribute [local go_sem ↓] ld46 st46 ld23 st23 ld12 st12
theorem ld46_is {W : World} {b : Nat} {f : Nat → B} {T : TypeId} (h : Blk.Is W b (cB 752 f) T) : (Blk.ld 46 (.pointer (some ⟨b, 0, none⟩))).run Try.prog W = .ok (.agg (cB 752 f)) W := Blk.load_row h (P := Try.prog) (t := 46) Try.underlying46 rfl (by rw [cB_size]; kernel_rfl)
section
variable {ops : Array Oper} {Q : Exit → Act → World → Prop} {a : Act} {o : Oper} {W : World}
/-- An element is appended, in a region that draws its order. -/
theorem appendOne {Kc : Act → World → Prop} (base : Nat) (s x : Operand) (v : Value) (l : List Int) (b : Int) (hw : Region.wanted o (yielded ops a.tmps) = true) (ho : o.op = .call { callee := .builtin .append, args := #[s, x], argTypes := #[24, 24] })
    (hs : a.eval s = v) (hx : a.eval x = .slice (some ⟨W.heap.size, 0, none⟩) 1 1) (HO : Row.Is W base v l) (hbase : base ≤ W.heap.size) (hl : l.length ≤ 100000000000000)
    (h : ∀ v1 w1, Row.Is w1 base v1 (l ++ [b]) → Below base W w1 → W.grownBy w1 v.ownBlock → Kc (a.put o.dst v1) w1) :
    if Region.wanted o (yielded ops a.tmps) = true then Oper.wp Try.prog o a (W.alloc (.cells #[.int .u8 b] 5)) Kc Q else Kc (a.put o.dst undef) (W.alloc (.cells #[.int .u8 b] 5)) := by
  refine Kd.R_append_step (Kd.int .u8) (w0 := W) base hw s x 24 5 (.int .u8 0) 1 ho Try.underlying24 Row.infoB rfl (by decide) (by omega) v l b [.int .u8 b] (fun _ => True) (fun _ => False) hs hx rfl (fun _ hk => hk.elim) (fun _ _ => trivial) (HO.R _ (fun _ _ => trivial)) (Below.refl _ _) hbase (by omega) ?_
  intro v1 w1 h1 h2 h3 h4
  exact h v1 w1 (Row.of_R h1) h2 h3
end
set_option maxRecDepth 100000 in
set_option maxHeartbeats 4000000 in
theorem rturned_calls (kc nonce : Nat → B) (E : (Nat → B) → Nat → B) (hE : ∀ (b : Nat → B) (w : World), Calls Try.prog 21 #[.agg (cB 752 kc), .agg (cB 16 b)] w fun e w' => e = .returned (.agg (cB 16 (E b))) ∧ Below w.heap.size w w')
    (A : Option Addr) (c : Nat) (l : List Int) (w : World) (hT : Txt w A c l) (hl : l.length < 200000) :
    Calls Try.prog 26 #[.agg (cB 752 kc), .agg (cB 12 nonce), .slice A l.length c] w fun e w' => ∃ v, e = .returned v ∧ Row.Is w' w.heap.size v (bodyL E nonce l) ∧ Below w.heap.size w w' := by
  have e1 : (w.alloc (.cells (cB 752 kc) 46)).heap.size = w.heap.size + 1 := by simp
  have e2 : ((w.alloc (.cells (cB 752 kc) 46)).alloc (.cells (cB 12 nonce) 23)).heap.size = w.heap.size + 1 + 1 := by simp
  have e3 : (((w.alloc (.cells (cB 752 kc) 46)).alloc (.cells (cB 12 nonce) 23)).alloc (.cells (cB 16 z16) 37)).heap.size = w.heap.size + 1 + 1 + 1 := by simp
  have HK := Lib.hid (((Blk.Is.new w (cB 752 kc) 46).alloc (.cells (cB 12 nonce) 23)).alloc (.cells (cB 16 z16) 37))
  have HN := Lib.hid ((Blk.Is.new (w.alloc (.cells (cB 752 kc) 46)) (cB 12 nonce) 23).alloc (.cells (cB 16 z16) 37))
  rw [e1] at HN
  have HZ := Lib.hid (Blk.Is.new ((w.alloc (.cells (cB 752 kc) 46)).alloc (.cells (cB 12 nonce) 23)) (cB 16 z16) 37)
  rw [e2] at HZ
  have HB := Lib.hid ((((Below.refl _ w).alloc (Nat.le_refl _) (.cells (cB 752 kc) 46)).alloc (by omega) (.cells (cB 12 nonce) 23)).alloc (by omega) (.cells (cB 16 z16) 37))
  have HR := Lib.hid (Row.Is.nil (((w.alloc (.cells (cB 752 kc) 46)).alloc (.cells (cB 12 nonce) 23)).alloc (.cells (cB 16 z16) 37)) (w.heap.size + 1 + 1 + 1))
  have HSZ : Hid (w.heap.size + 1 + 1 + 1 ≤ (((w.alloc (.cells (cB 752 kc) 46)).alloc (.cells (cB 12 nonce) 23)).alloc (.cells (cB 16 z16) 37)).heap.size) := Nat.le_of_eq e3.symm
  have HT : Hid (∀ v : World, Below w.heap.size w v → Txt v A c l) := fun v hb => hT.below hb
  have HL := Lib.hid hl
  clear e1 e2 e3 hT hl
  go_enter Try.func26, Try.ntmps26
  go_wp2_with fail
  rw [lit16]
  generalize (((w.alloc (.cells (cB 752 kc) 46)).alloc (.cells (cB 12 nonce) 23)).alloc (.cells (cB 16 z16) 37)) = w0 at *
  generalize hg : w.heap.size = g at *
  have HG := Lib.hid hg
  clear hg
  go_loopw [7, 9, 10, 11, 12, 13, 14, 15, 16, 17, 18, 19, 20, 21, 22, 23, 24, 25, 26, 27, 28, 29, 30, 31, 32, 33, 34, 35, 36, 37] (fun v7 v9 v10 v11 v12 v13 v14 v15 v16 v17 v18 v19 v20 v21 v22 v23 v24 v25 v26 v27 v28 v29 v30 v31 v32 v33 v34 v35 v36 v37 wr => ∃ (i : Nat), i ≤ l.length ∧ v9 = .int .i64 (i : Int) ∧ Hid (Row.Is wr (g + 1 + 1 + 1) v7 (outL E nonce 1 l i)) ∧ Hid (Blk.Is wr (g + 1 + 1) (cB 16 (curB E nonce 1 i)) 37) ∧ Hid (Blk.Is wr g (cB 752 kc) 46) ∧ Hid (Blk.Is wr (g + 1) (cB 12 nonce) 23) ∧ Hid (Below g w wr)) (fun _ v9 _ _ _ _ _ _ _ _ _ _ _ _ _ _ _ _ _ _ _ _ _ _ _ _ _ _ _ _ _ => l.length - (intOf v9).toNat)
  case atStart => exact ⟨0, Nat.zero_le _, rfl, HR, HZ, HK, HN, HB⟩
  case round =>
    clear HR HZ HK HN HB HSZ
    obtain ⟨i, hi, rfl, HR, HZ, HK, HN, HB⟩ := hrel
    obtain ⟨wo, rfl⟩ : ∃ wo, wo = wr := ⟨_, rfl⟩
    have hlB := HL.out
    by_cases hlt : i < l.length
    · skip
      have HLT := Lib.hid hlt
      have hltI : (i : Int) < (l.length : Int) := by omega
      have HTW : Hid (Txt wo A c l) := HT.out wo HB.out
      obtain ⟨ad, rfl, hcell⟩ := txt_cell HTW.out i hlt
      clear HTW
      obtain ⟨bx, hbx⟩ : ∃ bx, bx = toB (l.getD i 0) := ⟨_, rfl⟩
      rw [← hbx] at hcell
      have HBX := Lib.hid hbx
      clear hbx hcell
      have HCELL : Hid (∀ v : World, Below g w v → v.cell? (ad.add i) = some (.int .u8 (ofB bx))) := by
        intro v hb
        obtain ⟨ad', e', hc⟩ := txt_cell (HT.out v hb) i hlt
        injection e' with e'
        subst e'
        rw [HBX.out]
        exact hc
      obtain ⟨sB, hsB⟩ : ∃ sB, sB = E (ctr nonce (1 + i / 16 + 1)) := ⟨_, rfl⟩
      have HSB := Lib.hid hsB
      clear hsB
      obtain ⟨j, hj⟩ : ∃ j : Nat, j = i % 16 := ⟨_, rfl⟩
      have HJ := Lib.hid hj
      have hj16 : j < 16 := by omega
      have htm : Int.tmod (i : Int) 16 = (j : Int) := by rw [Int.tmod_eq_emod_of_nonneg (by omega)]; omega
      have htm2 : (i : Int) % 16 = (j : Int) := by omega
      clear hj
      have HV : Hid (ofB (bx ^^^ sB j) = outB E nonce 1 l i) := by
        rw [HBX.out, HSB.out, HJ.out]; rfl
      by_cases h16 : j = 0
      · skip
        obtain rfl : j = 0 := h16
        have hw1 : wrap64 ((i : Int) / 16) = (i : Int) / 16 := by unfold wrap64; omega
        have hw2 : IntKind.i64.wrap ((i : Int) / 16) = (i : Int) / 16 := by rw [i64_w]; exact hw1
        have hw3 : wrap64 (2 + (i : Int) / 16) = ((1 + i / 16 + 1 : Nat) : Int) := by unfold wrap64; omega
        have hw4 : IntKind.i64.wrap (2 + (i : Int) / 16) = ((1 + i / 16 + 1 : Nat) : Int) := by rw [i64_w]; exact hw3
        go_wp2_with fail
        refine start_ (n := 8) (S := fun w' => (Blk.ld 46 (.pointer (some ⟨g, 0, none⟩))).run Try.prog w' = .ok (.agg (cB 752 kc)) w' ∧ (Blk.ld 23 (.pointer (some ⟨g + 1, 0, none⟩))).run Try.prog w' = .ok (.agg (cB 12 nonce)) w') (ds := []) #[false, false, false, false, false, false, false, false] (by kernel_rfl) rfl rfl ⟨(ld46_is HK.out.drew), (ld12_is HN.out.drew)⟩ (fun hHeld => ?_)
        replace HR := Lib.hid (HR.out.below (Below.refl _ _).drew)
        replace HB := Lib.hid HB.out.drew
        replace HK := Lib.hid HK.out.drew
        replace HN := Lib.hid HN.out.drew
        replace HZ := Lib.hid HZ.out.drew
        generalize wo.drew = w4 at *
        refine pure_ (i := 2) (N := some 21) (v := ?_) (a' := ?_) #[false, false, true, false, false, false, false, false] rfl rfl (by kernel_rfl) (fun _ _ _ h => h) (Or.inl ⟨by rfl, ?_⟩) ?_ ?_
        rotate_left
        · intro w'
          go_simp
          with_reducible rfl
        rotate_left
        · simp only [Act.put, List.setIfInBounds_toArray, List.set_cons_zero, List.set_cons_succ, i64_w, i32_w]
          rfl
        refine pure_ (i := 3) (N := some 22) (v := ?_) (a' := ?_) #[false, false, true, true, false, false, false, false] rfl rfl (by kernel_rfl) (fun _ _ _ h => h) (Or.inl ⟨by rfl, ?_⟩) ?_ ?_
        rotate_left
        · intro w'
          go_simp
          with_reducible rfl
        rotate_left
        · simp only [Act.put, List.setIfInBounds_toArray, List.set_cons_zero, List.set_cons_succ, i64_w, i32_w]
          rfl
        refine pure_ (i := 4) (N := some 23) (v := ?_) (a' := ?_) #[false, false, true, true, true, false, false, false] rfl rfl (by kernel_rfl) (fun _ _ _ h => h) (Or.inl ⟨by rfl, ?_⟩) ?_ ?_
        rotate_left
        · intro w'
          go_simp
          with_reducible rfl
        rotate_left
        · simp only [Act.put, List.setIfInBounds_toArray, List.set_cons_zero, List.set_cons_succ, i64_w, i32_w]
          rfl
        refine take_ (i := 0) (N := some 19) (v := ?_) (a' := ?_) #[true, false, true, true, true, false, false, false] rfl rfl (by kernel_rfl) (fun _ _ _ h => h) (Or.inl ⟨by rfl, ?_⟩) hHeld ?_ ?_
        rotate_left
        · rintro w' ⟨s0, s1⟩
          go_simp
          with_reducible rfl
        rotate_left
        · simp only [Act.put, List.setIfInBounds_toArray, List.set_cons_zero, List.set_cons_succ, i64_w, i32_w]
          rfl
        refine take_ (i := 1) (N := some 20) (v := ?_) (a' := ?_) #[true, true, true, true, true, false, false, false] rfl rfl (by kernel_rfl) (fun _ _ _ h => h) (Or.inl ⟨by rfl, ?_⟩) hHeld ?_ ?_
        rotate_left
        · rintro w' ⟨s0, s1⟩
          go_simp
          with_reducible rfl
        rotate_left
        · simp only [Act.put, List.setIfInBounds_toArray, List.set_cons_zero, List.set_cons_succ, i64_w, i32_w]
          rfl
        refine one_ (i := 5) (N := some 24) #[true, true, true, true, true, true, false, false] rfl rfl (by kernel_rfl) (by decide) (fun K hK => ?_)
        refine goes_ Try.func38 (by kernel_rfl) rfl #[.agg (cB 12 nonce), .int .i64 ((1 + i / 16 + 1 : Nat) : Int)] (by rfl) rfl rfl (by simp only [List.map_toArray, List.map_cons, List.map_nil]; rfl) ?_
        with_reducible refine (counter_calls nonce (1 + i / 16 + 1) (by have := HL.out; have := HLT.out; omega) w4).mono ?_
        rintro e w5 ⟨rfl, hb⟩
        refine ⟨_, rfl, ?_⟩
        replace HR := Lib.hid (HR.out.below hb)
        replace HB := Lib.hid (HB.out.trans (hb.mono (by have := HZ.out.lt; omega)))
        replace HK := Lib.hid (HK.out.below hb HK.out.lt)
        replace HN := Lib.hid (HN.out.below hb HN.out.lt)
        replace HZ := Lib.hid (HZ.out.below hb HZ.out.lt)
        clear hb
        refine hK.out _ _ ⟨(ld46_is HK.out), (ld12_is HN.out)⟩ (fun hHeld => ?_)
        clear hK K
        refine norm_ (a' := ?_) ?_ ?_
        rotate_left
        · show Act.put _ (some 24) _ = _
          simp only [Act.put, List.setIfInBounds_toArray, List.set_cons_zero, List.set_cons_succ, i64_w, i32_w]
          rfl
        refine one_ (i := 6) (N := some 25) #[true, true, true, true, true, true, true, false] rfl rfl (by kernel_rfl) (by decide) (fun K hK => ?_)
        refine goes_ Try.func21 (by kernel_rfl) rfl #[.agg (cB 752 kc), .agg (cB 16 (ctr nonce (1 + i / 16 + 1)))] (by rfl) rfl rfl (by simp only [List.map_toArray, List.map_cons, List.map_nil]; rfl) ?_
        with_reducible refine (hE _ w5).mono ?_
        rintro e w6 ⟨rfl, hb⟩
        refine ⟨_, rfl, ?_⟩
        replace HR := Lib.hid (HR.out.below hb)
        replace HB := Lib.hid (HB.out.trans (hb.mono (by have := HZ.out.lt; omega)))
        replace HK := Lib.hid (HK.out.below hb HK.out.lt)
        replace HN := Lib.hid (HN.out.below hb HN.out.lt)
        replace HZ := Lib.hid (HZ.out.below hb HZ.out.lt)
        clear hb
        rw [← HSB.out]
        have hss := Blk.store_row (P := Try.prog) (t := 37) (cB 16 sB) HZ.out (by rw [cB_size]; kernel_rfl) (by rw [cB_size, cB_size]) (cB_one _ _)
        refine hK.out _ _ ⟨(ld46_is HK.out), (ld12_is HN.out)⟩ (fun hHeld => ?_)
        clear hK K
        refine norm_ (a' := ?_) ?_ ?_
        rotate_left
        · show Act.put _ (some 25) _ = _
          simp only [Act.put, List.setIfInBounds_toArray, List.set_cons_zero, List.set_cons_succ, i64_w, i32_w]
          rfl
        refine one_ (i := 7) (N := none) #[true, true, true, true, true, true, true, true] rfl rfl (by kernel_rfl) (by decide) (fun K hK => ?_)
        refine skip_ (w1 := ?_) (by rfl) rfl ?_ ?_
        rotate_left
        · go_simp
          rfl
        have hkp : Keeps (g + 1 + 1) w6 (w6.setRow (g + 1 + 1) (cB 16 sB)) := ⟨Blk.below_setRow (Below.refl _ _) (Nat.le_refl _) _, fun k _ hk => setRow_other w6 (g + 1 + 1) k _ hk⟩
        replace HR := Lib.hid (HR.out.move (fun k hk => hkp.rest k (HR.out.lt k hk).2 (fun e => by have := (HR.out.lt k hk).1; omega)))
        replace HK := Lib.hid (hkp.is HK.out (by omega))
        replace HN := Lib.hid (hkp.is HN.out (by omega))
        replace HB := Lib.hid (HB.out.trans (hkp.below.mono (by omega)))
        replace HZ := Lib.hid (HZ.out.setRow (cB 16 sB))
        clear hkp hss
        generalize w6.setRow (g + 1 + 1) (cB 16 sB) = w7 at *
        refine hK.out _ _ ⟨(ld46_is HK.out), (ld12_is HN.out)⟩ (fun hHeld => ?_)
        clear hK K
        refine done_ (by kernel_rfl) ?_
        clear hw1 hw2 hw3 hw4
        go_wp2_with fail
        have HJL := Lib.hid hj16
        have hx := bits_xor bx (sB 0)
        refine start_ (n := 13) (S := fun w' => w'.cell? (ad.add i) = some (.int .u8 (ofB bx)) ∧ w'.cell? ⟨g + 1 + 1, 0, none⟩ = some (.int .u8 (ofB (sB 0)))) (ds := []) #[false, false, false, false, false, false, false, false, false, false, false, false, false] (by kernel_rfl) rfl rfl ⟨(HCELL.out _ HB.out.drew), (by rw [HZ.out.drew.cell]; exact cB_get 16 sB _ HJL.out)⟩ (fun hHeld => ?_)
        replace HR := Lib.hid (HR.out.below (Below.refl _ _).drew)
        replace HB := Lib.hid HB.out.drew
        replace HK := Lib.hid HK.out.drew
        replace HN := Lib.hid HN.out.drew
        replace HZ := Lib.hid HZ.out.drew
        generalize World.drew _ = w8 at *
        refine pure_ (i := 0) (N := some 26) (v := ?_) (a' := ?_) #[true, false, false, false, false, false, false, false, false, false, false, false, false] rfl rfl (by kernel_rfl) (fun _ _ _ h => h) (Or.inl ⟨by rfl, ?_⟩) ?_ ?_
        rotate_left
        · intro w'
          go_simp
          with_reducible rfl
        rotate_left
        · simp only [Act.put, List.setIfInBounds_toArray, List.set_cons_zero, List.set_cons_succ, i64_w, i32_w]
          rfl
        refine pure_ (i := 1) (N := some 27) (v := ?_) (a' := ?_) #[true, true, false, false, false, false, false, false, false, false, false, false, false] rfl rfl (by kernel_rfl) (fun _ _ _ h => h) (Or.inl ⟨by rfl, ?_⟩) ?_ ?_
        rotate_left
        · intro w'
          go_simp
          with_reducible rfl
        rotate_left
        · simp only [Act.put, List.setIfInBounds_toArray, List.set_cons_zero, List.set_cons_succ, i64_w, i32_w]
          rfl
        refine pure_ (i := 2) (N := some 28) (v := ?_) (a' := ?_) #[true, true, true, false, false, false, false, false, false, false, false, false, false] rfl rfl (by kernel_rfl) (fun _ _ _ h => h) (Or.inl ⟨by rfl, ?_⟩) ?_ ?_
        rotate_left
        · intro w'
          go_simp
          with_reducible rfl
        rotate_left
        · simp only [Act.put, List.setIfInBounds_toArray, List.set_cons_zero, List.set_cons_succ, i64_w, i32_w]
          rfl
        refine pure_ (i := 3) (N := some 29) (v := ?_) (a' := ?_) #[true, true, true, true, false, false, false, false, false, false, false, false, false] rfl rfl (by kernel_rfl) (fun _ _ _ h => h) (Or.inl ⟨by rfl, ?_⟩) ?_ ?_
        rotate_left
        · intro w'
          go_simp
          with_reducible rfl
        rotate_left
        · simp only [Act.put, List.setIfInBounds_toArray, List.set_cons_zero, List.set_cons_succ, i64_w, i32_w]
          rfl
        refine pure_ (i := 5) (N := some 31) (v := ?_) (a' := ?_) #[true, true, true, true, false, true, false, false, false, false, false, false, false] rfl rfl (by kernel_rfl) (fun _ _ _ h => h) (Or.inl ⟨by rfl, ?_⟩) ?_ ?_
        rotate_left
        · intro w'
          go_simp
          with_reducible rfl
        rotate_left
        · simp only [Act.put, List.setIfInBounds_toArray, List.set_cons_zero, List.set_cons_succ, i64_w, i32_w]
          rfl
        refine pure_ (i := 6) (N := some 32) (v := ?_) (a' := ?_) #[true, true, true, true, false, true, true, false, false, false, false, false, false] rfl rfl (by kernel_rfl) (fun _ _ _ h => h) (Or.inl ⟨by rfl, ?_⟩) ?_ ?_
        rotate_left
        · intro w'
          go_simp
          with_reducible rfl
        rotate_left
        · simp only [Act.put, List.setIfInBounds_toArray, List.set_cons_zero, List.set_cons_succ, i64_w, i32_w]
          rfl
        refine pure_ (i := 7) (N := some 33) (v := ?_) (a' := ?_) #[true, true, true, true, false, true, true, true, false, false, false, false, false] rfl rfl (by kernel_rfl) (fun _ _ _ h => h) (Or.inl ⟨by rfl, ?_⟩) ?_ ?_
        rotate_left
        · intro w'
          go_simp
          with_reducible rfl
        rotate_left
        · simp only [Act.put, List.setIfInBounds_toArray, List.set_cons_zero, List.set_cons_succ, i64_w, i32_w]
          rfl
        refine take_ (i := 4) (N := some 30) (v := ?_) (a' := ?_) #[true, true, true, true, true, true, true, true, false, false, false, false, false] rfl rfl (by kernel_rfl) (fun _ _ _ h => h) (Or.inl ⟨by rfl, ?_⟩) hHeld ?_ ?_
        rotate_left
        · rintro w' ⟨s0, s1⟩
          go_simp
          with_reducible rfl
        rotate_left
        · simp only [Act.put, List.setIfInBounds_toArray, List.set_cons_zero, List.set_cons_succ, i64_w, i32_w]
          rfl
        refine take_ (i := 8) (N := some 34) (v := ?_) (a' := ?_) #[true, true, true, true, true, true, true, true, true, false, false, false, false] rfl rfl (by kernel_rfl) (fun _ _ _ h => h) (Or.inl ⟨by rfl, ?_⟩) hHeld ?_ ?_
        rotate_left
        · rintro w' ⟨s0, s1⟩
          go_simp
          with_reducible rfl
        rotate_left
        · simp only [Act.put, List.setIfInBounds_toArray, List.set_cons_zero, List.set_cons_succ, i64_w, i32_w]
          rfl
        refine pure_ (i := 9) (N := some 35) (v := ?_) (a' := ?_) #[true, true, true, true, true, true, true, true, true, true, false, false, false] rfl rfl (by kernel_rfl) (fun _ _ _ h => h) (Or.inl ⟨by rfl, ?_⟩) ?_ ?_
        rotate_left
        · intro w'
          go_simp
          with_reducible rfl
        rotate_left
        · simp only [Act.put, List.setIfInBounds_toArray, List.set_cons_zero, List.set_cons_succ, i64_w, i32_w]
          rfl
        refine one_ (i := 10) (N := some 36) #[true, true, true, true, true, true, true, true, true, true, true, false, false] rfl rfl (by kernel_rfl) (by decide) (fun K hK => ?_)
        refine value_ (w1 := ?_) (v := ?_) (by rfl) rfl ?_ ?_
        rotate_left 2
        · go_simp
          constructor
          · rfl
          · rfl
        refine hK.out _ _ ⟨(HCELL.out _ (HB.out.alloc (by have := HZ.out.lt; omega) _)), (by rw [(HZ.out.alloc _).cell]; exact cB_get 16 sB _ HJL.out)⟩ (fun hHeld => ?_)
        clear hK K
        refine norm_ (a' := ?_) ?_ ?_
        rotate_left
        · show Act.put _ (some 36) _ = _
          simp only [Act.put, List.setIfInBounds_toArray, List.set_cons_zero, List.set_cons_succ, i64_w, i32_w]
          rfl
        refine one_ (i := 11) (N := some 37) #[true, true, true, true, true, true, true, true, true, true, true, true, false] rfl rfl (by kernel_rfl) (by decide) (fun K hK => ?_)
        refine appendOne (g + 1 + 1 + 1) _ _ u7 (outL E nonce 1 l i) (ofB (bx ^^^ sB 0)) rfl rfl rfl (by rfl) HR.out HZ.out.lt (by rw [outL_len]; have := HL.out; have := HLT.out; omega) ?_
        intro v1 w9 q1 q2 q3
        replace HR := Lib.hid q1
        replace HB := Lib.hid (HB.out.trans (q2.mono (by omega)))
        replace HK := Lib.hid (HK.out.below q2 (by omega))
        replace HN := Lib.hid (HN.out.below q2 (by omega))
        replace HZ := Lib.hid (HZ.out.below q2 (by omega))
        clear q1 q2 q3
        refine hK.out _ _ ⟨(HCELL.out _ HB.out), (by rw [HZ.out.cell]; exact cB_get 16 sB _ HJL.out)⟩ (fun hHeld => ?_)
        clear hK K
        refine norm_ (a' := ?_) ?_ ?_
        rotate_left
        · show Act.put _ (some 37) _ = _
          simp only [Act.put, List.setIfInBounds_toArray, List.set_cons_zero, List.set_cons_succ, i64_w, i32_w]
          rfl
        refine pure_ (i := 12) (N := some 7) (v := ?_) (a' := ?_) #[true, true, true, true, true, true, true, true, true, true, true, true, true] rfl rfl (by kernel_rfl) (fun _ _ _ h => h) (Or.inl ⟨by rfl, ?_⟩) ?_ ?_
        rotate_left
        · intro w'
          go_simp
          with_reducible rfl
        rotate_left
        · simp only [Act.put, List.setIfInBounds_toArray, List.set_cons_zero, List.set_cons_succ, i64_w, i32_w]
          rfl
        refine done_ (by kernel_rfl) ?_
        clear hx
        have hlB := HL.out
        have hlt := HLT.out
        go_wp2_with fail
        go_roundw
        case rel =>
          refine ⟨i + 1, by have := HLT.out; omega, by go_num, ?_, ?_, HK, HN, HB⟩
          · rw [outL_succ, ← HV.out]
            exact HR.out
          · have e : curB E nonce 1 (i + 1) = sB := by
              rw [HSB.out]
              unfold curB
              rw [if_neg (by omega), show (i + 1 + 15) / 16 = i / 16 + 1 by omega, ← Nat.add_assoc]
            rw [e]
            exact HZ.out
        case measure => have := HLT.out; simp [intOf]; omega
      · skip
        have hi0 : i ≠ 0 := by intro e; have := HJ.out; omega
        replace HZ : Hid (Blk.Is wo (g + 1 + 1) (cB 16 sB) 37) := by
          have h := HZ.out
          unfold curB at h
          rw [if_neg hi0, show 1 + (i + 15) / 16 = 1 + i / 16 + 1 by have := HJ.out; omega, ← HSB.out] at h
          exact h
        clear hi0
        have hjI16 : (j : Int) < 16 := by omega
        have hz : ((j : Int) == 0) = false := beq_eq_false_iff_ne.mpr (by omega)
        go_wp2_with fail
        have HJL := Lib.hid hj16
        have hx := bits_xor bx (sB j)
        refine start_ (n := 13) (S := fun w' => w'.cell? (ad.add i) = some (.int .u8 (ofB bx)) ∧ w'.cell? ⟨g + 1 + 1, j, none⟩ = some (.int .u8 (ofB (sB j)))) (ds := []) #[false, false, false, false, false, false, false, false, false, false, false, false, false] (by kernel_rfl) rfl rfl ⟨(HCELL.out _ HB.out.drew), (by rw [HZ.out.drew.cell]; exact cB_get 16 sB _ HJL.out)⟩ (fun hHeld => ?_)
        replace HR := Lib.hid (HR.out.below (Below.refl _ _).drew)
        replace HB := Lib.hid HB.out.drew
        replace HK := Lib.hid HK.out.drew
        replace HN := Lib.hid HN.out.drew
        replace HZ := Lib.hid HZ.out.drew
        generalize World.drew _ = w8 at *
        refine pure_ (i := 0) (N := some 26) (v := ?_) (a' := ?_) #[true, false, false, false, false, false, false, false, false, false, false, false, false] rfl rfl (by kernel_rfl) (fun _ _ _ h => h) (Or.inl ⟨by rfl, ?_⟩) ?_ ?_
        rotate_left
        · intro w'
          go_simp
          with_reducible rfl
        rotate_left
        · simp only [Act.put, List.setIfInBounds_toArray, List.set_cons_zero, List.set_cons_succ, i64_w, i32_w]
          rfl
        refine pure_ (i := 1) (N := some 27) (v := ?_) (a' := ?_) #[true, true, false, false, false, false, false, false, false, false, false, false, false] rfl rfl (by kernel_rfl) (fun _ _ _ h => h) (Or.inl ⟨by rfl, ?_⟩) ?_ ?_
        rotate_left
        · intro w'
          go_simp
          with_reducible rfl
        rotate_left
        · simp only [Act.put, List.setIfInBounds_toArray, List.set_cons_zero, List.set_cons_succ, i64_w, i32_w]
          rfl
        refine pure_ (i := 2) (N := some 28) (v := ?_) (a' := ?_) #[true, true, true, false, false, false, false, false, false, false, false, false, false] rfl rfl (by kernel_rfl) (fun _ _ _ h => h) (Or.inl ⟨by rfl, ?_⟩) ?_ ?_
        rotate_left
        · intro w'
          go_simp
          with_reducible rfl
        rotate_left
        · simp only [Act.put, List.setIfInBounds_toArray, List.set_cons_zero, List.set_cons_succ, i64_w, i32_w]
          rfl
        refine pure_ (i := 3) (N := some 29) (v := ?_) (a' := ?_) #[true, true, true, true, false, false, false, false, false, false, false, false, false] rfl rfl (by kernel_rfl) (fun _ _ _ h => h) (Or.inl ⟨by rfl, ?_⟩) ?_ ?_
        rotate_left
        · intro w'
          go_simp
          with_reducible rfl
        rotate_left
        · simp only [Act.put, List.setIfInBounds_toArray, List.set_cons_zero, List.set_cons_succ, i64_w, i32_w]
          rfl
        refine pure_ (i := 5) (N := some 31) (v := ?_) (a' := ?_) #[true, true, true, true, false, true, false, false, false, false, false, false, false] rfl rfl (by kernel_rfl) (fun _ _ _ h => h) (Or.inl ⟨by rfl, ?_⟩) ?_ ?_
        rotate_left
        · intro w'
          go_simp
          with_reducible rfl
        rotate_left
        · simp only [Act.put, List.setIfInBounds_toArray, List.set_cons_zero, List.set_cons_succ, i64_w, i32_w]
          rfl
        refine pure_ (i := 6) (N := some 32) (v := ?_) (a' := ?_) #[true, true, true, true, false, true, true, false, false, false, false, false, false] rfl rfl (by kernel_rfl) (fun _ _ _ h => h) (Or.inl ⟨by rfl, ?_⟩) ?_ ?_
        rotate_left
        · intro w'
          go_simp
          with_reducible rfl
        rotate_left
        · simp only [Act.put, List.setIfInBounds_toArray, List.set_cons_zero, List.set_cons_succ, i64_w, i32_w]
          rfl
        refine pure_ (i := 7) (N := some 33) (v := ?_) (a' := ?_) #[true, true, true, true, false, true, true, true, false, false, false, false, false] rfl rfl (by kernel_rfl) (fun _ _ _ h => h) (Or.inl ⟨by rfl, ?_⟩) ?_ ?_
        rotate_left
        · intro w'
          go_simp
          with_reducible rfl
        rotate_left
        · simp only [Act.put, List.setIfInBounds_toArray, List.set_cons_zero, List.set_cons_succ, i64_w, i32_w]
          rfl
        refine take_ (i := 4) (N := some 30) (v := ?_) (a' := ?_) #[true, true, true, true, true, true, true, true, false, false, false, false, false] rfl rfl (by kernel_rfl) (fun _ _ _ h => h) (Or.inl ⟨by rfl, ?_⟩) hHeld ?_ ?_
        rotate_left
        · rintro w' ⟨s0, s1⟩
          go_simp
          with_reducible rfl
        rotate_left
        · simp only [Act.put, List.setIfInBounds_toArray, List.set_cons_zero, List.set_cons_succ, i64_w, i32_w]
          rfl
        refine take_ (i := 8) (N := some 34) (v := ?_) (a' := ?_) #[true, true, true, true, true, true, true, true, true, false, false, false, false] rfl rfl (by kernel_rfl) (fun _ _ _ h => h) (Or.inl ⟨by rfl, ?_⟩) hHeld ?_ ?_
        rotate_left
        · rintro w' ⟨s0, s1⟩
          go_simp
          with_reducible rfl
        rotate_left
        · simp only [Act.put, List.setIfInBounds_toArray, List.set_cons_zero, List.set_cons_succ, i64_w, i32_w]
          rfl
        refine pure_ (i := 9) (N := some 35) (v := ?_) (a' := ?_) #[true, true, true, true, true, true, true, true, true, true, false, false, false] rfl rfl (by kernel_rfl) (fun _ _ _ h => h) (Or.inl ⟨by rfl, ?_⟩) ?_ ?_
        rotate_left
        · intro w'
          go_simp
          with_reducible rfl
        rotate_left
        · simp only [Act.put, List.setIfInBounds_toArray, List.set_cons_zero, List.set_cons_succ, i64_w, i32_w]
          rfl
        refine one_ (i := 10) (N := some 36) #[true, true, true, true, true, true, true, true, true, true, true, false, false] rfl rfl (by kernel_rfl) (by decide) (fun K hK => ?_)
        refine value_ (w1 := ?_) (v := ?_) (by rfl) rfl ?_ ?_
        rotate_left 2
        · go_simp
          constructor
          · rfl
          · rfl
        refine hK.out _ _ ⟨(HCELL.out _ (HB.out.alloc (by have := HZ.out.lt; omega) _)), (by rw [(HZ.out.alloc _).cell]; exact cB_get 16 sB _ HJL.out)⟩ (fun hHeld => ?_)
        clear hK K
        refine norm_ (a' := ?_) ?_ ?_
        rotate_left
        · show Act.put _ (some 36) _ = _
          simp only [Act.put, List.setIfInBounds_toArray, List.set_cons_zero, List.set_cons_succ, i64_w, i32_w]
          rfl
        refine one_ (i := 11) (N := some 37) #[true, true, true, true, true, true, true, true, true, true, true, true, false] rfl rfl (by kernel_rfl) (by decide) (fun K hK => ?_)
        refine appendOne (g + 1 + 1 + 1) _ _ u7 (outL E nonce 1 l i) (ofB (bx ^^^ sB j)) rfl rfl rfl (by rfl) HR.out HZ.out.lt (by rw [outL_len]; have := HL.out; have := HLT.out; omega) ?_
        intro v1 w9 q1 q2 q3
        replace HR := Lib.hid q1
        replace HB := Lib.hid (HB.out.trans (q2.mono (by omega)))
        replace HK := Lib.hid (HK.out.below q2 (by omega))
        replace HN := Lib.hid (HN.out.below q2 (by omega))
        replace HZ := Lib.hid (HZ.out.below q2 (by omega))
        clear q1 q2 q3
        refine hK.out _ _ ⟨(HCELL.out _ HB.out), (by rw [HZ.out.cell]; exact cB_get 16 sB _ HJL.out)⟩ (fun hHeld => ?_)
        clear hK K
        refine norm_ (a' := ?_) ?_ ?_
        rotate_left
        · show Act.put _ (some 37) _ = _
          simp only [Act.put, List.setIfInBounds_toArray, List.set_cons_zero, List.set_cons_succ, i64_w, i32_w]
          rfl
        refine pure_ (i := 12) (N := some 7) (v := ?_) (a' := ?_) #[true, true, true, true, true, true, true, true, true, true, true, true, true] rfl rfl (by kernel_rfl) (fun _ _ _ h => h) (Or.inl ⟨by rfl, ?_⟩) ?_ ?_
        rotate_left
        · intro w'
          go_simp
          with_reducible rfl
        rotate_left
        · simp only [Act.put, List.setIfInBounds_toArray, List.set_cons_zero, List.set_cons_succ, i64_w, i32_w]
          rfl
        refine done_ (by kernel_rfl) ?_
        clear hx
        have hlB := HL.out
        have hlt := HLT.out
        go_wp2_with fail
        go_roundw
        case rel =>
          refine ⟨i + 1, by have := HLT.out; omega, by go_num, ?_, ?_, HK, HN, HB⟩
          · rw [outL_succ, ← HV.out]
            exact HR.out
          · have e : curB E nonce 1 (i + 1) = sB := by
              rw [HSB.out]
              unfold curB
              rw [if_neg (by omega), show (i + 1 + 15) / 16 = i / 16 + 1 by omega, ← Nat.add_assoc]
            rw [e]
            exact HZ.out
        case measure => have := HLT.out; simp [intOf]; omega
    · obtain rfl : i = l.length := by omega
      go_wp2_with fail
      go_ret
      exact ⟨_, rfl, HR.out.lower (by rw [HG.out]; omega), by rw [HG.out]; exact HB.out⟩
end Go.Proofs.Ytbebmbcjddibaaa.Gcm
/- What is said here: the document's tag answers as the program's. -/
namespace Go.Proofs.Ytbebmbcjddibaaa.Gcm
set_option linter.unusedVariables false
set_option linter.unusedSimpArgs false
open Go.RowKit Go.Proofs.YtbebmbcjddibaaaW.PrintWords Go.Proofs.YtbebmbcjddibaaaW.PrintLast Go.Proofs.YtbebmbcjddibaaaW.PrintMore Go.Proofs.Ytbebmbcjddibaaa.PG Gf Gfi Poly AesF Aes Lng
attribute [local go_sem ↓] ld46 st46 ld23 st23 ld12 st12
theorem counter1 (nonce : Nat → B) (w : World) : Calls Try.prog 38 #[.agg (cB 12 nonce), .int .i64 1] w fun e w' => e = .returned (.agg (cB 16 (ctr nonce 1))) ∧ Below w.heap.size w w' := counter_calls nonce 1 (by decide) w
theorem byteW_blk (f : Nat → B) (q : Nat) (hq : q < 16) : byteW (blkW f) q = f q := by
  apply BitVec.eq_of_getLsbD_eq
  intro k hk
  unfold byteW
  rw [BitVec.getLsbD_setWidth, BitVec.getLsbD_ushiftRight, decide_eq_true hk, Bool.true_and]
  have h := blk_bit f (8 * q + (7 - k)) (by omega)
  rw [show (8 * q + (7 - k)) / 8 = q by omega, show 7 - (8 * q + (7 - k)) % 8 = k by omega, show 127 - (8 * q + (7 - k)) = 120 - 8 * q + k by omega] at h
  exact h
theorem zx_tag (Y e : Nat → B) : cB 16 (zx Y e 16) = cB 16 (tagF e (blkW Y)) := cB_congr (fun q hq => by
  unfold zx tagF
  rw [if_pos hq, byteW_blk Y q hq, BitVec.xor_comm])
set_option maxRecDepth 100000 in
set_option maxHeartbeats 4000000 in
theorem rtag_calls (kc nonce : Nat → B) (E : (Nat → B) → Nat → B) (hE : ∀ (b : Nat → B) (w : World), Calls Try.prog 21 #[.agg (cB 752 kc), .agg (cB 16 b)] w fun e w' => e = .returned (.agg (cB 16 (E b))) ∧ Below w.heap.size w w')
    (A1 A2 : Option Addr) (c1 c2 : Nat) (l1 l2 : List Int) (w : World) (h1 : Txt w A1 c1 l1) (h2 : Txt w A2 c2 l2) :
    Calls Try.prog 27 #[.agg (cB 752 kc), .agg (cB 12 nonce), .slice A1 l1.length c1, .slice A2 l2.length c2] w fun e w' => e = .returned (.agg (cB 16 (tagF (E (ctr nonce 1)) (ghash (blkW (E z16)) l1 l2)))) ∧ Below w.heap.size w w' := by
  have e1 : (w.alloc (.cells (cB 752 kc) 46)).heap.size = w.heap.size + 1 := by simp
  have e2 : ((w.alloc (.cells (cB 752 kc) 46)).alloc (.cells (cB 12 nonce) 23)).heap.size = w.heap.size + 1 + 1 := by simp
  have e3 : (((w.alloc (.cells (cB 752 kc) 46)).alloc (.cells (cB 12 nonce) 23)).alloc (.cells (cB 16 z16) 37)).heap.size = w.heap.size + 1 + 1 + 1 := by simp
  have HK := Lib.hid ((((Blk.Is.new w (cB 752 kc) 46).alloc (.cells (cB 12 nonce) 23)).alloc (.cells (cB 16 z16) 37)).alloc (.cells (cB 16 z16) 37))
  have HN := Lib.hid (((Blk.Is.new (w.alloc (.cells (cB 752 kc) 46)) (cB 12 nonce) 23).alloc (.cells (cB 16 z16) 37)).alloc (.cells (cB 16 z16) 37))
  rw [e1] at HN
  have HR := Lib.hid ((Blk.Is.new ((w.alloc (.cells (cB 752 kc) 46)).alloc (.cells (cB 12 nonce) 23)) (cB 16 z16) 37).alloc (.cells (cB 16 z16) 37))
  rw [e2] at HR
  have HZ := Lib.hid (Blk.Is.new (((w.alloc (.cells (cB 752 kc) 46)).alloc (.cells (cB 12 nonce) 23)).alloc (.cells (cB 16 z16) 37)) (cB 16 z16) 37)
  rw [e3] at HZ
  have HB := Lib.hid (((((Below.refl _ w).alloc (Nat.le_refl _) (.cells (cB 752 kc) 46)).alloc (by omega) (.cells (cB 12 nonce) 23)).alloc (by omega) (.cells (cB 16 z16) 37)).alloc (by omega) (.cells (cB 16 z16) 37))
  have HT1 : Hid (∀ v : World, Below w.heap.size w v → Txt v A1 c1 l1) := fun v hb => h1.below hb
  have HT2 : Hid (∀ v : World, Below w.heap.size w v → Txt v A2 c2 l2) := fun v hb => h2.below hb
  clear e1 e2 e3 h1 h2
  have lk : (Blk.ld 46 (.pointer (some ⟨w.heap.size, 0, none⟩))).run Try.prog _ = .ok _ _ := ld46_is HK.out
  have lz : (Blk.ld 37 (.pointer (some ⟨w.heap.size + 1 + 1 + 1, 0, none⟩))).run Try.prog _ = .ok _ _ := ld16_is HZ.out
  rw [← lit16] at lk lz HK HN HR HZ HB
  go_enter Try.func27, Try.ntmps27
  go_wp2_with fail
  rw [lit16] at lk lz HK HN HR HZ HB ⊢
  clear lk lz
  generalize ((((w.alloc (.cells (cB 752 kc) 46)).alloc (.cells (cB 12 nonce) 23)).alloc (.cells (cB 16 z16) 37)).alloc (.cells (cB 16 z16) 37)) = w0 at *
  generalize hg : w.heap.size = g at *
  have HG := Lib.hid hg
  clear hg
  refine (hE z16 w0).mono ?_
  rintro e w1 ⟨rfl, hb⟩
  replace HB := Lib.hid (HB.out.trans (hb.mono (by have := HZ.out.lt; omega)))
  replace HK := Lib.hid (HK.out.below hb HK.out.lt)
  replace HN := Lib.hid (HN.out.below hb HN.out.lt)
  replace HR := Lib.hid (HR.out.below hb HR.out.lt)
  clear hb
  clear HZ
  obtain ⟨h, hh⟩ : ∃ h, h = E z16 := ⟨_, rfl⟩
  rw [← hh]
  have HHE := Lib.hid hh
  clear hh
  go_wp2_with fail
  refine (rhash_calls h A1 A2 c1 c2 l1 l2 w1 (HT1.out w1 HB.out) (HT2.out w1 HB.out)).mono ?_
  rintro e w2 ⟨Y, rfl, hY, hb⟩
  replace HB := Lib.hid (HB.out.trans (hb.mono (by have := HR.out.lt; omega)))
  replace HK := Lib.hid (HK.out.below hb HK.out.lt)
  replace HN := Lib.hid (HN.out.below hb HN.out.lt)
  replace HR := Lib.hid (HR.out.below hb HR.out.lt)
  clear hb
  have HYE := Lib.hid hY
  clear hY
  have hst := st_new w2 Y
  have HGT : Hid (g + 1 + 1 < w2.heap.size) := HR.out.lt
  have HT := Lib.hid (Blk.Is.new w2 (cB 16 Y) 37)
  replace HK := Lib.hid (HK.out.alloc (.cells (cB 16 Y) 37))
  replace HN := Lib.hid (HN.out.alloc (.cells (cB 16 Y) 37))
  replace HR := Lib.hid (HR.out.alloc (.cells (cB 16 Y) 37))
  replace HB := Lib.hid (HB.out.alloc (by have := HGT.out; omega) (.cells (cB 16 Y) 37))
  go_wp2_with fail
  clear hst
  generalize w2.alloc (.cells (cB 16 Y) 37) = w3 at *
  generalize w2.heap.size = gt at *
  obtain ⟨e1, he1⟩ : ∃ e1, e1 = E (ctr nonce 1) := ⟨_, rfl⟩
  have HE1 := Lib.hid he1
  clear he1
  refine start_ (n := 6) (S := fun w' => (Blk.ld 46 (.pointer (some ⟨g, 0, none⟩))).run Try.prog w' = .ok (.agg (cB 752 kc)) w' ∧ (Blk.ld 23 (.pointer (some ⟨g + 1, 0, none⟩))).run Try.prog w' = .ok (.agg (cB 12 nonce)) w') (ds := []) #[false, false, false, false, false, false] (by kernel_rfl) rfl rfl ⟨(ld46_is HK.out.drew), (ld12_is HN.out.drew)⟩ (fun hHeld => ?_)
  replace HK := Lib.hid HK.out.drew
  replace HN := Lib.hid HN.out.drew
  replace HR := Lib.hid HR.out.drew
  replace HT := Lib.hid HT.out.drew
  replace HB := Lib.hid HB.out.drew
  generalize w3.drew = w4 at *
  refine take_ (i := 0) (N := some 19) (v := ?_) (a' := ?_) #[true, false, false, false, false, false] rfl rfl (by kernel_rfl) (fun _ _ _ h => h) (Or.inl ⟨by rfl, ?_⟩) hHeld ?_ ?_
  rotate_left
  · rintro w' ⟨s0, s1⟩
    go_simp
    with_reducible rfl
  rotate_left
  · simp only [Act.put, List.setIfInBounds_toArray, List.set_cons_zero, List.set_cons_succ, i64_w, i32_w]
    rfl
  refine take_ (i := 1) (N := some 20) (v := ?_) (a' := ?_) #[true, true, false, false, false, false] rfl rfl (by kernel_rfl) (fun _ _ _ h => h) (Or.inl ⟨by rfl, ?_⟩) hHeld ?_ ?_
  rotate_left
  · rintro w' ⟨s0, s1⟩
    go_simp
    with_reducible rfl
  rotate_left
  · simp only [Act.put, List.setIfInBounds_toArray, List.set_cons_zero, List.set_cons_succ, i64_w, i32_w]
    rfl
  refine join_ (σ := Nat) 1 #[true, true, true, true, true, false] (fun s => [(21, .agg (cB 16 (ctr nonce 1))), (22, .agg (cB 16 e1)), (11, .pointer (some ⟨s, 0, none⟩))]) (fun s w' => Hid (Blk.Is w' s #[.int .u8 0, .int .u8 0, .int .u8 0, .int .u8 0, .int .u8 0, .int .u8 0, .int .u8 0, .int .u8 0, .int .u8 0, .int .u8 0, .int .u8 0, .int .u8 0, .int .u8 0, .int .u8 0, .int .u8 0, .int .u8 0] 37) ∧ Hid (gt < s) ∧ Hid (Blk.Is w' g (cB 752 kc) 46) ∧ Hid (Blk.Is w' (g + 1) (cB 12 nonce) 23) ∧ Hid (Blk.Is w' (g + 1 + 1) (cB 16 z16) 37) ∧ Hid (Blk.Is w' gt (cB 16 Y) 37) ∧ Hid (Below g w w')) ?_ ?_
  rotate_left
  · intro hCont
    refine two_ (i := 2) (j := 4) (Ni := some 21) (Nj := some 11) #[true, true, true, false, false, false] #[true, true, false, false, true, false] rfl rfl rfl rfl (by kernel_rfl) (by decide) (by decide) (fun K hK => ?_) (fun K hK => ?_)
    · skip
      refine goes_ Try.func38 (by kernel_rfl) rfl #[.agg (cB 12 nonce), .int .i64 1] (by rfl) rfl rfl (by simp only [List.map_toArray, List.map_cons, List.map_nil]; rfl) ?_
      with_reducible refine (counter1 nonce w4).mono ?_
      rintro e w5 ⟨rfl, hb⟩
      refine ⟨_, rfl, ?_⟩
      replace HB := Lib.hid (HB.out.trans (hb.mono (by have := HT.out.lt; have := HGT.out; omega)))
      replace HK := Lib.hid (HK.out.below hb HK.out.lt)
      replace HN := Lib.hid (HN.out.below hb HN.out.lt)
      replace HR := Lib.hid (HR.out.below hb HR.out.lt)
      replace HT := Lib.hid (HT.out.below hb HT.out.lt)
      clear hb
      refine hK.out _ _ ⟨(ld46_is HK.out), (ld12_is HN.out)⟩ (fun hHeld => ?_)
      clear hK K
      refine norm_ (a' := ?_) ?_ ?_
      rotate_left
      · show Act.put _ (some 21) _ = _
        simp only [Act.put, List.setIfInBounds_toArray, List.set_cons_zero, List.set_cons_succ, i64_w, i32_w]
        rfl
      refine two_ (i := 3) (j := 4) (Ni := some 22) (Nj := some 11) #[true, true, true, true, false, false] #[true, true, true, false, true, false] rfl rfl rfl rfl (by kernel_rfl) (by decide) (by decide) (fun K hK => ?_) (fun K hK => ?_)
      · skip
        refine goes_ Try.func21 (by kernel_rfl) rfl #[.agg (cB 752 kc), .agg (cB 16 (ctr nonce 1))] (by rfl) rfl rfl (by simp only [List.map_toArray, List.map_cons, List.map_nil]; rfl) ?_
        with_reducible refine (hE _ w5).mono ?_
        rintro e w6 ⟨rfl, hb⟩
        refine ⟨_, rfl, ?_⟩
        rw [← HE1.out]
        replace HB := Lib.hid (HB.out.trans (hb.mono (by have := HT.out.lt; have := HGT.out; omega)))
        replace HK := Lib.hid (HK.out.below hb HK.out.lt)
        replace HN := Lib.hid (HN.out.below hb HN.out.lt)
        replace HR := Lib.hid (HR.out.below hb HR.out.lt)
        replace HT := Lib.hid (HT.out.below hb HT.out.lt)
        clear hb
        refine hK.out _ _ ⟨(ld46_is HK.out), (ld12_is HN.out)⟩ (fun hHeld => ?_)
        clear hK K
        refine norm_ (a' := ?_) ?_ ?_
        rotate_left
        · show Act.put _ (some 22) _ = _
          simp only [Act.put, List.setIfInBounds_toArray, List.set_cons_zero, List.set_cons_succ, i64_w, i32_w]
          rfl
        refine one_ (i := 4) (N := some 11) #[true, true, true, true, true, false] rfl rfl (by kernel_rfl) (by decide) (fun K hK => ?_)
        refine value_ (w1 := ?_) (v := ?_) (by rfl) rfl ?_ ?_
        rotate_left 2
        · go_simp
          constructor
          · rfl
          · rfl
        have HA := Lib.hid (Blk.Is.new w6 #[.int .u8 0, .int .u8 0, .int .u8 0, .int .u8 0, .int .u8 0, .int .u8 0, .int .u8 0, .int .u8 0, .int .u8 0, .int .u8 0, .int .u8 0, .int .u8 0, .int .u8 0, .int .u8 0, .int .u8 0, .int .u8 0] 37)
        have HAS : Hid (gt < w6.heap.size) := HT.out.lt
        replace HB := Lib.hid (HB.out.alloc (by have := HT.out.lt; have := HGT.out; omega) (.cells #[.int .u8 0, .int .u8 0, .int .u8 0, .int .u8 0, .int .u8 0, .int .u8 0, .int .u8 0, .int .u8 0, .int .u8 0, .int .u8 0, .int .u8 0, .int .u8 0, .int .u8 0, .int .u8 0, .int .u8 0, .int .u8 0] 37))
        replace HK := Lib.hid (HK.out.alloc (.cells #[.int .u8 0, .int .u8 0, .int .u8 0, .int .u8 0, .int .u8 0, .int .u8 0, .int .u8 0, .int .u8 0, .int .u8 0, .int .u8 0, .int .u8 0, .int .u8 0, .int .u8 0, .int .u8 0, .int .u8 0, .int .u8 0] 37))
        replace HN := Lib.hid (HN.out.alloc (.cells #[.int .u8 0, .int .u8 0, .int .u8 0, .int .u8 0, .int .u8 0, .int .u8 0, .int .u8 0, .int .u8 0, .int .u8 0, .int .u8 0, .int .u8 0, .int .u8 0, .int .u8 0, .int .u8 0, .int .u8 0, .int .u8 0] 37))
        replace HR := Lib.hid (HR.out.alloc (.cells #[.int .u8 0, .int .u8 0, .int .u8 0, .int .u8 0, .int .u8 0, .int .u8 0, .int .u8 0, .int .u8 0, .int .u8 0, .int .u8 0, .int .u8 0, .int .u8 0, .int .u8 0, .int .u8 0, .int .u8 0, .int .u8 0] 37))
        replace HT := Lib.hid (HT.out.alloc (.cells #[.int .u8 0, .int .u8 0, .int .u8 0, .int .u8 0, .int .u8 0, .int .u8 0, .int .u8 0, .int .u8 0, .int .u8 0, .int .u8 0, .int .u8 0, .int .u8 0, .int .u8 0, .int .u8 0, .int .u8 0, .int .u8 0] 37))
        generalize w6.alloc (.cells #[.int .u8 0, .int .u8 0, .int .u8 0, .int .u8 0, .int .u8 0, .int .u8 0, .int .u8 0, .int .u8 0, .int .u8 0, .int .u8 0, .int .u8 0, .int .u8 0, .int .u8 0, .int .u8 0, .int .u8 0, .int .u8 0] 37) = w7 at *
        generalize w6.heap.size = sa at *
        refine hK.out _ _ ⟨(ld46_is HK.out), (ld12_is HN.out)⟩ (fun hHeld => ?_)
        clear hK K
        refine norm_ (a' := ?_) ?_ ?_
        rotate_left
        · show Act.put _ (some 11) _ = _
          simp only [Act.put, List.setIfInBounds_toArray, List.set_cons_zero, List.set_cons_succ, i64_w, i32_w]
          rfl
        exact norm_ (by simp only [putAll, Act.put, List.setIfInBounds_toArray, List.set_cons_zero, List.set_cons_succ]) (hCont sa _ ⟨HA, HAS, HK, HN, HR, HT, HB⟩)
      · skip
        refine value_ (w1 := ?_) (v := ?_) (by rfl) rfl ?_ ?_
        rotate_left 2
        · go_simp
          constructor
          · rfl
          · rfl
        have HA := Lib.hid (Blk.Is.new w5 #[.int .u8 0, .int .u8 0, .int .u8 0, .int .u8 0, .int .u8 0, .int .u8 0, .int .u8 0, .int .u8 0, .int .u8 0, .int .u8 0, .int .u8 0, .int .u8 0, .int .u8 0, .int .u8 0, .int .u8 0, .int .u8 0] 37)
        have HAS : Hid (gt < w5.heap.size) := HT.out.lt
        replace HB := Lib.hid (HB.out.alloc (by have := HT.out.lt; have := HGT.out; omega) (.cells #[.int .u8 0, .int .u8 0, .int .u8 0, .int .u8 0, .int .u8 0, .int .u8 0, .int .u8 0, .int .u8 0, .int .u8 0, .int .u8 0, .int .u8 0, .int .u8 0, .int .u8 0, .int .u8 0, .int .u8 0, .int .u8 0] 37))
        replace HK := Lib.hid (HK.out.alloc (.cells #[.int .u8 0, .int .u8 0, .int .u8 0, .int .u8 0, .int .u8 0, .int .u8 0, .int .u8 0, .int .u8 0, .int .u8 0, .int .u8 0, .int .u8 0, .int .u8 0, .int .u8 0, .int .u8 0, .int .u8 0, .int .u8 0] 37))
        replace HN := Lib.hid (HN.out.alloc (.cells #[.int .u8 0, .int .u8 0, .int .u8 0, .int .u8 0, .int .u8 0, .int .u8 0, .int .u8 0, .int .u8 0, .int .u8 0, .int .u8 0, .int .u8 0, .int .u8 0, .int .u8 0, .int .u8 0, .int .u8 0, .int .u8 0] 37))
        replace HR := Lib.hid (HR.out.alloc (.cells #[.int .u8 0, .int .u8 0, .int .u8 0, .int .u8 0, .int .u8 0, .int .u8 0, .int .u8 0, .int .u8 0, .int .u8 0, .int .u8 0, .int .u8 0, .int .u8 0, .int .u8 0, .int .u8 0, .int .u8 0, .int .u8 0] 37))
        replace HT := Lib.hid (HT.out.alloc (.cells #[.int .u8 0, .int .u8 0, .int .u8 0, .int .u8 0, .int .u8 0, .int .u8 0, .int .u8 0, .int .u8 0, .int .u8 0, .int .u8 0, .int .u8 0, .int .u8 0, .int .u8 0, .int .u8 0, .int .u8 0, .int .u8 0] 37))
        generalize w5.alloc (.cells #[.int .u8 0, .int .u8 0, .int .u8 0, .int .u8 0, .int .u8 0, .int .u8 0, .int .u8 0, .int .u8 0, .int .u8 0, .int .u8 0, .int .u8 0, .int .u8 0, .int .u8 0, .int .u8 0, .int .u8 0, .int .u8 0] 37) = w6 at *
        generalize w5.heap.size = sa at *
        refine hK.out _ _ ⟨(ld46_is HK.out), (ld12_is HN.out)⟩ (fun hHeld => ?_)
        clear hK K
        refine norm_ (a' := ?_) ?_ ?_
        rotate_left
        · show Act.put _ (some 11) _ = _
          simp only [Act.put, List.setIfInBounds_toArray, List.set_cons_zero, List.set_cons_succ, i64_w, i32_w]
          rfl
        refine one_ (i := 3) (N := some 22) #[true, true, true, true, true, false] rfl rfl (by kernel_rfl) (by decide) (fun K hK => ?_)
        refine goes_ Try.func21 (by kernel_rfl) rfl #[.agg (cB 752 kc), .agg (cB 16 (ctr nonce 1))] (by rfl) rfl rfl (by simp only [List.map_toArray, List.map_cons, List.map_nil]; rfl) ?_
        with_reducible refine (hE _ w6).mono ?_
        rintro e w7 ⟨rfl, hb⟩
        refine ⟨_, rfl, ?_⟩
        rw [← HE1.out]
        replace HB := Lib.hid (HB.out.trans (hb.mono (by have := HT.out.lt; have := HGT.out; omega)))
        replace HK := Lib.hid (HK.out.below hb HK.out.lt)
        replace HN := Lib.hid (HN.out.below hb HN.out.lt)
        replace HR := Lib.hid (HR.out.below hb HR.out.lt)
        replace HT := Lib.hid (HT.out.below hb HT.out.lt)
        replace HA := Lib.hid (HA.out.below hb HA.out.lt)
        clear hb
        refine hK.out _ _ ⟨(ld46_is HK.out), (ld12_is HN.out)⟩ (fun hHeld => ?_)
        clear hK K
        refine norm_ (a' := ?_) ?_ ?_
        rotate_left
        · show Act.put _ (some 22) _ = _
          simp only [Act.put, List.setIfInBounds_toArray, List.set_cons_zero, List.set_cons_succ, i64_w, i32_w]
          rfl
        exact norm_ (by simp only [putAll, Act.put, List.setIfInBounds_toArray, List.set_cons_zero, List.set_cons_succ]) (hCont sa _ ⟨HA, HAS, HK, HN, HR, HT, HB⟩)
    · skip
      refine value_ (w1 := ?_) (v := ?_) (by rfl) rfl ?_ ?_
      rotate_left 2
      · go_simp
        constructor
        · rfl
        · rfl
      have HA := Lib.hid (Blk.Is.new w4 #[.int .u8 0, .int .u8 0, .int .u8 0, .int .u8 0, .int .u8 0, .int .u8 0, .int .u8 0, .int .u8 0, .int .u8 0, .int .u8 0, .int .u8 0, .int .u8 0, .int .u8 0, .int .u8 0, .int .u8 0, .int .u8 0] 37)
      have HAS : Hid (gt < w4.heap.size) := HT.out.lt
      replace HB := Lib.hid (HB.out.alloc (by have := HT.out.lt; have := HGT.out; omega) (.cells #[.int .u8 0, .int .u8 0, .int .u8 0, .int .u8 0, .int .u8 0, .int .u8 0, .int .u8 0, .int .u8 0, .int .u8 0, .int .u8 0, .int .u8 0, .int .u8 0, .int .u8 0, .int .u8 0, .int .u8 0, .int .u8 0] 37))
      replace HK := Lib.hid (HK.out.alloc (.cells #[.int .u8 0, .int .u8 0, .int .u8 0, .int .u8 0, .int .u8 0, .int .u8 0, .int .u8 0, .int .u8 0, .int .u8 0, .int .u8 0, .int .u8 0, .int .u8 0, .int .u8 0, .int .u8 0, .int .u8 0, .int .u8 0] 37))
      replace HN := Lib.hid (HN.out.alloc (.cells #[.int .u8 0, .int .u8 0, .int .u8 0, .int .u8 0, .int .u8 0, .int .u8 0, .int .u8 0, .int .u8 0, .int .u8 0, .int .u8 0, .int .u8 0, .int .u8 0, .int .u8 0, .int .u8 0, .int .u8 0, .int .u8 0] 37))
      replace HR := Lib.hid (HR.out.alloc (.cells #[.int .u8 0, .int .u8 0, .int .u8 0, .int .u8 0, .int .u8 0, .int .u8 0, .int .u8 0, .int .u8 0, .int .u8 0, .int .u8 0, .int .u8 0, .int .u8 0, .int .u8 0, .int .u8 0, .int .u8 0, .int .u8 0] 37))
      replace HT := Lib.hid (HT.out.alloc (.cells #[.int .u8 0, .int .u8 0, .int .u8 0, .int .u8 0, .int .u8 0, .int .u8 0, .int .u8 0, .int .u8 0, .int .u8 0, .int .u8 0, .int .u8 0, .int .u8 0, .int .u8 0, .int .u8 0, .int .u8 0, .int .u8 0] 37))
      generalize w4.alloc (.cells #[.int .u8 0, .int .u8 0, .int .u8 0, .int .u8 0, .int .u8 0, .int .u8 0, .int .u8 0, .int .u8 0, .int .u8 0, .int .u8 0, .int .u8 0, .int .u8 0, .int .u8 0, .int .u8 0, .int .u8 0, .int .u8 0] 37) = w5 at *
      generalize w4.heap.size = sa at *
      refine hK.out _ _ ⟨(ld46_is HK.out), (ld12_is HN.out)⟩ (fun hHeld => ?_)
      clear hK K
      refine norm_ (a' := ?_) ?_ ?_
      rotate_left
      · show Act.put _ (some 11) _ = _
        simp only [Act.put, List.setIfInBounds_toArray, List.set_cons_zero, List.set_cons_succ, i64_w, i32_w]
        rfl
      refine one_ (i := 2) (N := some 21) #[true, true, true, false, true, false] rfl rfl (by kernel_rfl) (by decide) (fun K hK => ?_)
      refine goes_ Try.func38 (by kernel_rfl) rfl #[.agg (cB 12 nonce), .int .i64 1] (by rfl) rfl rfl (by simp only [List.map_toArray, List.map_cons, List.map_nil]; rfl) ?_
      with_reducible refine (counter1 nonce w5).mono ?_
      rintro e w6 ⟨rfl, hb⟩
      refine ⟨_, rfl, ?_⟩
      replace HB := Lib.hid (HB.out.trans (hb.mono (by have := HT.out.lt; have := HGT.out; omega)))
      replace HK := Lib.hid (HK.out.below hb HK.out.lt)
      replace HN := Lib.hid (HN.out.below hb HN.out.lt)
      replace HR := Lib.hid (HR.out.below hb HR.out.lt)
      replace HT := Lib.hid (HT.out.below hb HT.out.lt)
      replace HA := Lib.hid (HA.out.below hb HA.out.lt)
      clear hb
      refine hK.out _ _ ⟨(ld46_is HK.out), (ld12_is HN.out)⟩ (fun hHeld => ?_)
      clear hK K
      refine norm_ (a' := ?_) ?_ ?_
      rotate_left
      · show Act.put _ (some 21) _ = _
        simp only [Act.put, List.setIfInBounds_toArray, List.set_cons_zero, List.set_cons_succ, i64_w, i32_w]
        rfl
      refine one_ (i := 3) (N := some 22) #[true, true, true, true, true, false] rfl rfl (by kernel_rfl) (by decide) (fun K hK => ?_)
      refine goes_ Try.func21 (by kernel_rfl) rfl #[.agg (cB 752 kc), .agg (cB 16 (ctr nonce 1))] (by rfl) rfl rfl (by simp only [List.map_toArray, List.map_cons, List.map_nil]; rfl) ?_
      with_reducible refine (hE _ w6).mono ?_
      rintro e w7 ⟨rfl, hb⟩
      refine ⟨_, rfl, ?_⟩
      rw [← HE1.out]
      replace HB := Lib.hid (HB.out.trans (hb.mono (by have := HT.out.lt; have := HGT.out; omega)))
      replace HK := Lib.hid (HK.out.below hb HK.out.lt)
      replace HN := Lib.hid (HN.out.below hb HN.out.lt)
      replace HR := Lib.hid (HR.out.below hb HR.out.lt)
      replace HT := Lib.hid (HT.out.below hb HT.out.lt)
      replace HA := Lib.hid (HA.out.below hb HA.out.lt)
      clear hb
      refine hK.out _ _ ⟨(ld46_is HK.out), (ld12_is HN.out)⟩ (fun hHeld => ?_)
      clear hK K
      refine norm_ (a' := ?_) ?_ ?_
      rotate_left
      · show Act.put _ (some 22) _ = _
        simp only [Act.put, List.setIfInBounds_toArray, List.set_cons_zero, List.set_cons_succ, i64_w, i32_w]
        rfl
      exact norm_ (by simp only [putAll, Act.put, List.setIfInBounds_toArray, List.set_cons_zero, List.set_cons_succ]) (hCont sa _ ⟨HA, HAS, HK, HN, HR, HT, HB⟩)
  rintro sa w8 ⟨HA, HAS, HK, HN, HR, HT, HB⟩
  have hHeld : (Blk.ld 46 (.pointer (some ⟨g, 0, none⟩))).run Try.prog w8 = .ok (.agg (cB 752 kc)) w8 ∧ (Blk.ld 23 (.pointer (some ⟨g + 1, 0, none⟩))).run Try.prog w8 = .ok (.agg (cB 12 nonce)) w8 := ⟨ld46_is HK.out, ld12_is HN.out⟩
  refine norm_ (a' := ?_) ?_ ?_
  rotate_left
  · simp only [putAll, Act.put, List.setIfInBounds_toArray, List.set_cons_zero, List.set_cons_succ]
    rfl
  refine one_ (i := 5) (N := none) #[true, true, true, true, true, true] rfl rfl (by kernel_rfl) (by decide) (fun K hK => ?_)
  have hss := Blk.store_row (P := Try.prog) (t := 37) (cB 16 e1) HA.out (by rw [cB_size]; kernel_rfl) (by rw [cB_size]; rfl) (cB_one _ _)
  refine skip_ (w1 := ?_) (by rfl) rfl ?_ ?_
  rotate_left
  · go_simp
    rfl
  have hkp : Keeps sa w8 (w8.setRow sa (cB 16 e1)) := ⟨Blk.below_setRow (Below.refl _ _) (Nat.le_refl _) _, fun k _ hk => setRow_other w8 sa k _ hk⟩
  replace HK := Lib.hid (hkp.is HK.out (by have := HAS.out; have := HGT.out; omega))
  replace HN := Lib.hid (hkp.is HN.out (by have := HAS.out; have := HGT.out; omega))
  replace HR := Lib.hid (hkp.is HR.out (by have := HAS.out; have := HGT.out; omega))
  replace HT := Lib.hid (hkp.is HT.out (by have := HAS.out; have := HGT.out; omega))
  replace HB := Lib.hid (HB.out.trans (hkp.below.mono (by have := HAS.out; have := HGT.out; omega)))
  replace HA := Lib.hid (HA.out.setRow (cB 16 e1))
  clear hkp hss
  generalize w8.setRow sa (cB 16 e1) = w9 at *
  refine hK.out _ _ ⟨(ld46_is HK.out), (ld12_is HN.out)⟩ (fun hHeld => ?_)
  clear hK K
  refine done_ (by kernel_rfl) ?_
  go_wp2_with fail
  rw [← zx_zero Y e1] at HT
  go_loopw [12, 23, 24, 25, 26, 27, 28, 29, 30, 31, 32, 33, 34, 35] (fun v12 v23 v24 v25 v26 v27 v28 v29 v30 v31 v32 v33 v34 v35 wr => ∃ (i : Nat), i ≤ 16 ∧ v12 = .int .i64 (i : Int) ∧ Hid (Blk.Is wr gt (cB 16 (zx Y e1 i)) 37) ∧ Hid (Blk.Is wr sa (cB 16 e1) 37) ∧ Hid (Blk.Is wr (g + 1 + 1) (cB 16 z16) 37) ∧ Hid (Below g w wr)) (fun v12 _ _ _ _ _ _ _ _ _ _ _ _ _ _ => 16 - (intOf v12).toNat)
  case atStart => exact ⟨0, Nat.zero_le _, rfl, HT, HA, HR, HB⟩
  case round =>
    clear HT HA HR HB HK HN
    obtain ⟨i, hi, rfl, HT, HA, HR, HB⟩ := hrel
    by_cases hlt : i < 16
    · have HI := Lib.hid hlt
      have hltI : (i : Int) < 16 := by omega
      have c0 : wr.cell? ⟨gt, i, none⟩ = some (.int .u8 (ofB (Y i))) := by rw [HT.out.cell, cB_get 16 _ _ hlt]; unfold zx; rw [if_neg (by omega)]
      have c1 : wr.cell? ⟨sa, i, none⟩ = some (.int .u8 (ofB (e1 i))) := by rw [HA.out.cell, cB_get 16 _ _ hlt]
      have f0 := HT.out.free i
      have hx := bits_xor (Y i) (e1 i)
      have HNX := Lib.hid (zx_next Y e1 i)
      generalize Y i ^^^ e1 i = nv at *
      go_wp2_with fail
      go_region
      go_wp2_with fail
      go_roundw
      case rel =>
        refine ⟨i + 1, by have := HI.out; omega, by go_num, ?_, (HA.out.other (by have := HAS.out; show sa ≠ gt; omega) _).drew, (HR.out.other (by have := HGT.out; show g + 1 + 1 ≠ gt; omega) _).drew, (HB.out.setCell (by have := HGT.out; show g ≤ gt; omega) _).drew⟩
        have h := (HT.out.set i (.int .u8 (ofB nv))).drew
        rw [cB_set, HNX.out] at h
        exact h
      case measure => have := HI.out; simp [intOf]; omega
    · obtain rfl : i = 16 := by omega
      rw [zx_tag] at HT
      have hll := ld16_is HT.out
      have hss := Blk.store_row (P := Try.prog) (t := 37) (cB 16 (tagF e1 (blkW Y))) HR.out (by rw [cB_size]; kernel_rfl) (by rw [cB_size, cB_size]) (cB_one _ _)
      have HR5 := Lib.hid (HR.out.setRow (cB 16 (tagF e1 (blkW Y))))
      have HB5 := Lib.hid (Blk.below_setRow HB.out (show g ≤ g + 1 + 1 by omega) (cB 16 (tagF e1 (blkW Y))))
      go_wp2_with fail
      refine bodyPost_ret (results_cell_row rfl _ _ (g + 1 + 1) 37 (cB 16 (tagF e1 (blkW Y))) (0, 0) _ rfl HR5.out Try.underlying37 rfl (by rw [cB_size]; kernel_rfl)) rfl ?_
      exact ⟨by rw [HE1.out, HYE.out, HHE.out], by rw [HG.out]; exact HB5.out⟩
end Go.Proofs.Ytbebmbcjddibaaa.Gcm
/- What is said here: the document's Seal and Open answer as the program's. -/
namespace Go.Proofs.Ytbebmbcjddibaaa.Gcm
set_option linter.unusedVariables false
set_option linter.unusedSimpArgs false
open Go.RowKit Go.Proofs.YtbebmbcjddibaaaW.PrintWords Go.Proofs.YtbebmbcjddibaaaW.PrintLast Go.Proofs.YtbebmbcjddibaaaW.PrintMore Go.Proofs.Ytbebmbcjddibaaa.PG Gf Gfi Poly AesF Aes Lng
attribute [local go_sem ↓] ld46 st46 ld23 st23 ld12 ld22
theorem zeroKey46 (w : World) : (zeroValue 46).run Try.prog w = .ok (.agg (cB 752 key0)) w := zeroRef w
theorem st46_new (w : World) (f : Nat → B) : (Blk.st 46 (.pointer (some ⟨w.heap.size, 0, none⟩)) (.agg (cB 752 f))).run Try.prog (w.alloc (.cells (cB 752 key0) 46)) = .ok () (w.alloc (.cells (cB 752 f) 46)) :=
  run_storeAt_new w 46 _ _ (by rw [cB_size]; kernel_rfl) (by rw [cB_size, cB_size]) (cB_one 752 f)
theorem num_inj {a b : List Int} (ha : ∀ x ∈ a, 0 ≤ x ∧ x < 256) (hb : ∀ x ∈ b, 0 ≤ x ∧ x < 256) (h : (strOfNums a).toList = (strOfNums b).toList) : a = b := by
  have h3 := h
  rw [ByteArray.toList_eq, ByteArray.toList_eq] at h3
  simp only [strOfNums_data] at h3
  have hl : a.length = b.length := by have := congrArg List.length h3; simpa using this
  apply List.ext_getElem hl
  intro i i1 i2
  have h4 := congrArg (fun l => l[i]?) h3
  simp only [List.getElem?_map, List.getElem?_eq_getElem i1, List.getElem?_eq_getElem i2, Option.map_some, Option.some.injEq] at h4
  have h5 := congrArg UInt8.toNat h4
  have x1 := ha _ (List.getElem_mem i1)
  have x2 := hb _ (List.getElem_mem i2)
  simp at h5
  omega
theorem bytesL_by (f : Nat → B) : ∀ x ∈ bytesL f, 0 ≤ x ∧ x < 256 := fun x hx => by
  unfold bytesL at hx
  obtain ⟨j, _, rfl⟩ := List.mem_map.1 hx
  exact ofB_range _
theorem str_tag (tg : Nat → B) (l : List Int) (n : Nat) (hl : ∀ x ∈ l, 0 ≤ x ∧ x < 256) (hn : l.length = n + 16) : ((strOfNums (bytesL tg)).toList == (strOfNums (l.drop n)).toList) = eq16 tg (chunk l n) := by
  have hat : ∀ i, i < 16 → (l.drop n).getD i 0 = ofB (chunk l n i) := fun i hi => by
    unfold chunk
    have hm : l.getD (n + i) 0 ∈ l := by rw [List.getD_eq_getElem?_getD, List.getElem?_eq_getElem (by omega)]; exact List.getElem_mem _
    rw [ofB_toB (hl _ hm).1 (hl _ hm).2, List.getD_eq_getElem?_getD, List.getElem?_drop, ← List.getD_eq_getElem?_getD]
  rw [Bool.eq_iff_iff, eq16_iff, beq_iff_eq]
  constructor
  · intro h i hi
    have h2 := num_inj (bytesL_by tg) (fun x hx => hl x (List.mem_of_mem_drop hx)) h
    have h3 := bytesL_at tg i hi
    rw [h2, hat i hi] at h3
    exact (ofB_inj h3).symm
  · intro h
    congr 2
    refine ext_getD (by rw [bytesL_len, List.length_drop]; omega) (fun j hj => ?_)
    rw [bytesL_len] at hj
    rw [bytesL_at tg j hj, hat j hj, h j hj]
theorem cv_tag {w : World} {b : Nat} {f : Nat → B} {T : TypeId} (h : Blk.Is w b (cB 16 f) T) : (convert 24 9 (.slice (some ⟨b, 0, none⟩) 16 16)).run Try.prog w = .ok (.string (strOfNums (bytesL f))) w := by
  have hr := blk_row h
  rw [bytesL_len] at hr
  exact Kd.C_string (P := Try.prog) Try.underlying24 Try.underlying5 Try.underlying9 hr
theorem cv_tail {w : World} {ad : Addr} {c : Nat} {l : List Int} (h : Txt w (some ad) c l) (n : Nat) (hn : l.length = n + 16) : (convert 24 9 (.slice (some (ad.add n)) 16 (c - n))).run Try.prog w = .ok (.string (strOfNums (l.drop n))) w := by
  have hr := h.drop n (by omega)
  rw [show (l.drop n).length = 16 by rw [List.length_drop]; omega] at hr
  exact Kd.C_string (P := Try.prog) Try.underlying24 Try.underlying5 Try.underlying9 hr
set_option maxRecDepth 100000 in
set_option maxHeartbeats 4000000 in
theorem rseal_calls (kc key nonce : Nat → B) (E : (Nat → B) → Nat → B) (hE : ∀ (b : Nat → B) (w : World), Calls Try.prog 21 #[.agg (cB 752 kc), .agg (cB 16 b)] w fun e w' => e = .returned (.agg (cB 16 (E b))) ∧ Below w.heap.size w w')
    (hX : ∀ w : World, Calls Try.prog 20 #[.agg (cB 32 key)] w fun e w' => e = .returned (.agg (cB 752 kc)) ∧ Below w.heap.size w w')
    (A1 A2 : Option Addr) (c1 c2 : Nat) (l1 l2 : List Int) (w : World) (h1 : Txt w A1 c1 l1) (h2 : Txt w A2 c2 l2) (hs1 : l1.length ≤ 65536) (hs2 : l2.length ≤ 65536) :
    Calls Try.prog 11 #[.agg (cB 32 key), .agg (cB 12 nonce), .slice A1 l1.length c1, .slice A2 l2.length c2] w fun e w' => ∃ v, e = .returned v ∧ Row.Is w' w.heap.size v (sealL E nonce l1 l2) ∧ Below w.heap.size w w' := by
  have e1 : (w.alloc (.cells (cB 32 key) 22)).heap.size = w.heap.size + 1 := by simp
  have HQ := Lib.hid ((Blk.Is.new w (cB 32 key) 22).alloc (.cells (cB 12 nonce) 23))
  have HN := Lib.hid (Blk.Is.new (w.alloc (.cells (cB 32 key) 22)) (cB 12 nonce) 23)
  rw [e1] at HN
  have HB := Lib.hid (((Below.refl _ w).alloc (Nat.le_refl _) (.cells (cB 32 key) 22)).alloc (by omega) (.cells (cB 12 nonce) 23))
  have HT1 : Hid (∀ v : World, Below w.heap.size w v → Txt v A1 c1 l1) := fun v hb => h1.below hb
  have HT2 : Hid (∀ v : World, Below w.heap.size w v → Txt v A2 c2 l2) := fun v hb => h2.below hb
  have HS2 := Lib.hid hs2
  clear e1 h1 h2
  have hzk := zeroKey46
  have g1 : ¬ (l1.length : Int) > 65536 := by omega
  have g2 : ¬ (l2.length : Int) > 65536 := by omega
  have lk := Blk.load_row HQ.out (P := Try.prog) (t := 22) Try.underlying22 rfl (by rw [cB_size]; kernel_rfl)
  go_enter Try.func11, Try.ntmps11
  go_wp2_with fail
  clear lk
  generalize ((w.alloc (.cells (cB 32 key) 22)).alloc (.cells (cB 12 nonce) 23)) = w0 at *
  generalize hg : w.heap.size = g at *
  have HG := Lib.hid hg
  clear hg
  refine (hX w0).mono ?_
  rintro e w1 ⟨rfl, hb⟩
  replace HB := Lib.hid (HB.out.trans (hb.mono (by have := HN.out.lt; omega)))
  replace HN := Lib.hid (HN.out.below hb HN.out.lt)
  clear hb HQ
  have hst := st46_new w1 kc
  have HGK : Hid (g + 1 < w1.heap.size) := HN.out.lt
  have HK := Lib.hid (Blk.Is.new w1 (cB 752 kc) 46)
  replace HN := Lib.hid (HN.out.alloc (.cells (cB 752 kc) 46))
  replace HB := Lib.hid (HB.out.alloc (by have := HGK.out; omega) (.cells (cB 752 kc) 46))
  have lk := ld46_is HK.out
  have ln := ld12_is HN.out
  go_wp2_with fail
  clear hst lk ln hzk g1 g2
  generalize w1.alloc (.cells (cB 752 kc) 46) = w2 at *
  generalize w1.heap.size = gk at *
  refine (rturned_calls kc nonce E hE A2 c2 l2 w2 (HT2.out w2 HB.out) (by have := HS2.out; omega)).mono ?_
  rintro e w3 ⟨v, rfl, hR, hb⟩
  have HGB : Hid (gk < w2.heap.size) := HK.out.lt
  have HR : Hid (Row.Is w3 w2.heap.size v (bodyL E nonce l2)) := hR
  replace HB := Lib.hid (HB.out.trans (hb.mono (by have := HGB.out; have := HGK.out; omega)))
  replace HN := Lib.hid (HN.out.below hb HN.out.lt)
  replace HK := Lib.hid (HK.out.below hb HK.out.lt)
  have HSZ := Lib.hid hb.size
  clear hR hb
  generalize w2.heap.size = bs at *
  obtain ⟨A', c', rfl, hle, hC⟩ := HR.out.reads
  have HTX := Lib.hid (show Txt w3 A' c' (bodyL E nonce l2) from ⟨hC, hle, body_by E nonce l2, by rw [body_len]; have := HS2.out; omega⟩)
  have HLB := Lib.hid (body_len E nonce l2)
  obtain ⟨T, hT⟩ : ∃ T, T = bodyL E nonce l2 := ⟨_, rfl⟩
  rw [← hT] at HR HTX HLB ⊢
  have HTE := Lib.hid hT
  clear hT hle hC
  have lk := ld46_is HK.out
  have ln := ld12_is HN.out
  go_wp2_with fail
  clear lk ln
  refine (rtag_calls kc nonce E hE A1 A' c1 c' l1 T w3 (HT1.out w3 HB.out) HTX.out).mono ?_
  rintro e w4 ⟨rfl, hb⟩
  replace HB := Lib.hid (HB.out.trans (hb.mono (by have := HK.out.lt; have := HGK.out; omega)))
  replace HR := Lib.hid (HR.out.below hb)
  replace HSZ := Lib.hid (Nat.le_trans HSZ.out hb.size)
  clear hb HTX HK HN
  obtain ⟨tg, htg⟩ : ∃ tg, tg = tagF (E (ctr nonce 1)) (ghash (blkW (E z16)) l1 T) := ⟨_, rfl⟩
  rw [← htg]
  have HTG := Lib.hid htg
  clear htg
  have hst := st_new w4 tg
  have HQ := Lib.hid (Blk.Is.new w4 (cB 16 tg) 37)
  replace HR := Lib.hid (HR.out.alloc (.cells (cB 16 tg) 37))
  replace HB := Lib.hid (HB.out.alloc (by have := HSZ.out; have := HGB.out; have := HGK.out; omega) (.cells (cB 16 tg) 37))
  have hrow := blk_row HQ.out
  have hbase : bs ≤ (w4.alloc (.cells (cB 16 tg) 37)).heap.size := Nat.le_trans HSZ.out (by simp)
  have hlen : T.length + (bytesL tg).length ≤ 100000000000000 := by rw [HLB.out, bytesL_len]; have := HS2.out; omega
  go_wp2_with (refine Row.appendRow bs _ _ _ T _ _ _ (bytesL tg) rfl rfl rfl rfl (by rw [bytesL_len]) HR.out hrow hbase hlen ?_; intro v1 w9 q1 q2 q3 q4)
  replace HR := Lib.hid q1
  replace HB := Lib.hid (HB.out.trans (q2.mono (by have := HGB.out; have := HGK.out; omega)))
  clear q1 q2 q3 q4 hrow hbase hlen hst
  go_wp2_with fail
  go_ret
  refine ⟨v1, rfl, ?_, by rw [HG.out]; exact HB.out⟩
  have h := HR.out.lower (show g ≤ bs by have := HGB.out; have := HGK.out; omega)
  rw [HTG.out, HTE.out] at h
  rw [HG.out]
  exact h
set_option maxRecDepth 100000 in
set_option maxHeartbeats 4000000 in
theorem rseal_long (key nonce : Nat → B) (A1 A2 : Option Addr) (c1 c2 : Nat) (l1 l2 : List Int) (w : World) (hl : 65536 < l1.length ∨ 65536 < l2.length) :
    Calls Try.prog 11 #[.agg (cB 32 key), .agg (cB 12 nonce), .slice A1 l1.length c1, .slice A2 l2.length c2] w fun e w' => e = .returned (.slice none 0 0) ∧ Below w.heap.size w w' := by
  have HB0 := Lib.hid (((Below.refl _ w).alloc (Nat.le_refl _) (.cells (cB 32 key) 22)).alloc (by simp) (.cells (cB 12 nonce) 23))
  by_cases h1 : 65536 < l1.length
  · have g1 : (l1.length : Int) > 65536 := by omega
    go_enter Try.func11, Try.ntmps11
    go_wp2_with fail
    go_ret
    exact ⟨rfl, HB0.out⟩
  · have g1 : ¬ (l1.length : Int) > 65536 := by omega
    have g2 : (l2.length : Int) > 65536 := by omega
    go_enter Try.func11, Try.ntmps11
    go_wp2_with fail
    go_ret
    exact ⟨rfl, HB0.out⟩
set_option maxRecDepth 100000 in
set_option maxHeartbeats 4000000 in
theorem ropen_short (key nonce : Nat → B) (A1 A2 : Option Addr) (c1 c2 : Nat) (l1 l2 : List Int) (w : World) (hl : l2.length < 16) :
    Calls Try.prog 16 #[.agg (cB 32 key), .agg (cB 12 nonce), .slice A1 l1.length c1, .slice A2 l2.length c2] w fun e w' => e = .returned (.tuple #[.slice none 0 0, .int .i64 10]) ∧ Below w.heap.size w w' := by
  have HB0 := Lib.hid (((Below.refl _ w).alloc (Nat.le_refl _) (.cells (cB 32 key) 22)).alloc (by simp) (.cells (cB 12 nonce) 23))
  have g1 : (l2.length : Int) < 16 := by omega
  go_enter Try.func16, Try.ntmps16
  go_wp2_with fail
  go_ret2
  exact ⟨rfl, HB0.out⟩
set_option maxRecDepth 100000 in
set_option maxHeartbeats 4000000 in
theorem ropen_long (key nonce : Nat → B) (A1 A2 : Option Addr) (c1 c2 : Nat) (l1 l2 : List Int) (w : World) (n : Nat) (hn : l2.length = n + 16) (hf : n < 1000000) (hl : 65536 < l1.length ∨ 65536 < n) :
    Calls Try.prog 16 #[.agg (cB 32 key), .agg (cB 12 nonce), .slice A1 l1.length c1, .slice A2 l2.length c2] w fun e w' => e = .returned (.tuple #[.slice none 0 0, .int .i64 3]) ∧ Below w.heap.size w w' := by
  have HB0 := Lib.hid (((Below.refl _ w).alloc (Nat.le_refl _) (.cells (cB 32 key) 22)).alloc (by simp) (.cells (cB 12 nonce) 23))
  have hs : IntKind.i64.wrap ((l2.length : Int) - 16) = (n : Int) := by rw [i64_w, show (l2.length : Int) - 16 = (n : Int) by omega]; unfold wrap64; omega
  have g0 : ¬ (l2.length : Int) < 16 := by omega
  by_cases h1 : 65536 < l1.length
  · have g1 : (l1.length : Int) > 65536 := by omega
    go_enter Try.func16, Try.ntmps16
    go_wp2_with fail
    go_ret2
    exact ⟨rfl, HB0.out⟩
  · have g1 : ¬ (l1.length : Int) > 65536 := by omega
    have g2 : (n : Int) > 65536 := by omega
    go_enter Try.func16, Try.ntmps16
    go_wp2_with fail
    go_ret2
    exact ⟨rfl, HB0.out⟩
set_option maxRecDepth 100000 in
set_option maxHeartbeats 4000000 in
theorem ropen_calls (kc key nonce : Nat → B) (E : (Nat → B) → Nat → B) (hE : ∀ (b : Nat → B) (w : World), Calls Try.prog 21 #[.agg (cB 752 kc), .agg (cB 16 b)] w fun e w' => e = .returned (.agg (cB 16 (E b))) ∧ Below w.heap.size w w')
    (hX : ∀ w : World, Calls Try.prog 20 #[.agg (cB 32 key)] w fun e w' => e = .returned (.agg (cB 752 kc)) ∧ Below w.heap.size w w')
    (A1 A2 : Option Addr) (c1 c2 : Nat) (l1 l2 : List Int) (w : World) (h1 : Txt w A1 c1 l1) (h2 : Txt w A2 c2 l2) (n : Nat) (hn : l2.length = n + 16) (hs1 : l1.length ≤ 65536) (hs2 : n ≤ 65536)
    (d : Bool) (hd : d = eq16 (tagF (E (ctr nonce 1)) (ghash (blkW (E z16)) l1 (l2.take n))) (chunk l2 n)) :
    Calls Try.prog 16 #[.agg (cB 32 key), .agg (cB 12 nonce), .slice A1 l1.length c1, .slice A2 l2.length c2] w fun e w' =>
      ∃ v, e = .returned (.tuple #[v, .int .i64 (if d = true then 0 else 60)]) ∧ Row.Is w' w.heap.size v (if d = true then bodyL E nonce (l2.take n) else []) ∧ Below w.heap.size w w' := by
  obtain ⟨ad, rfl, _⟩ := txt_cell h2 0 (by omega)
  have e1 : (w.alloc (.cells (cB 32 key) 22)).heap.size = w.heap.size + 1 := by simp
  have HQ := Lib.hid ((Blk.Is.new w (cB 32 key) 22).alloc (.cells (cB 12 nonce) 23))
  have HN := Lib.hid (Blk.Is.new (w.alloc (.cells (cB 32 key) 22)) (cB 12 nonce) 23)
  rw [e1] at HN
  have HB := Lib.hid (((Below.refl _ w).alloc (Nat.le_refl _) (.cells (cB 32 key) 22)).alloc (by omega) (.cells (cB 12 nonce) 23))
  have HT1 : Hid (∀ v : World, Below w.heap.size w v → Txt v A1 c1 l1) := fun v hb => h1.below hb
  have HT2 : Hid (∀ v : World, Below w.heap.size w v → Txt v (some ad) c2 l2) := fun v hb => h2.below hb
  have HTB : Hid (∀ v : World, Below w.heap.size w v → Txt v (some ad) c2 (l2.take n)) := fun v hb => (h2.take n (by omega)).below hb
  have HTL : Hid ((l2.take n).length = n) := by show (l2.take n).length = n; rw [List.length_take]; omega
  have HBY := Lib.hid h2.by_
  have hle := h2.le
  have HD := Lib.hid hd
  have HNN := Lib.hid hn
  have HS2 := Lib.hid hs2
  have hs : IntKind.i64.wrap ((l2.length : Int) - 16) = (n : Int) := by rw [i64_w, show (l2.length : Int) - 16 = (n : Int) by omega]; unfold wrap64; omega
  have hcn : ¬ c2 = n := by omega
  have hln : l2.length - n = 16 := by omega
  have hnc : n ≤ c2 := by omega
  have hnl : n ≤ l2.length := by omega
  have g0 : ¬ (l2.length : Int) < 16 := by omega
  clear e1 h1 h2 hd hn
  have hzk := zeroKey46
  have g1 : ¬ (l1.length : Int) > 65536 := by omega
  have g2 : ¬ (n : Int) > 65536 := by omega
  have lk := Blk.load_row HQ.out (P := Try.prog) (t := 22) Try.underlying22 rfl (by rw [cB_size]; kernel_rfl)
  go_enter Try.func16, Try.ntmps16
  go_wp2_with fail
  clear lk
  generalize ((w.alloc (.cells (cB 32 key) 22)).alloc (.cells (cB 12 nonce) 23)) = w0 at *
  generalize hg : w.heap.size = g at *
  have HG := Lib.hid hg
  clear hg
  refine (hX w0).mono ?_
  rintro e w1 ⟨rfl, hb⟩
  replace HB := Lib.hid (HB.out.trans (hb.mono (by have := HN.out.lt; omega)))
  replace HN := Lib.hid (HN.out.below hb HN.out.lt)
  clear hb HQ
  have hst := st46_new w1 kc
  have HGK : Hid (g + 1 < w1.heap.size) := HN.out.lt
  have HK := Lib.hid (Blk.Is.new w1 (cB 752 kc) 46)
  replace HN := Lib.hid (HN.out.alloc (.cells (cB 752 kc) 46))
  replace HB := Lib.hid (HB.out.alloc (by have := HGK.out; omega) (.cells (cB 752 kc) 46))
  go_wp2_with fail
  clear hst hzk g0 g1 g2
  generalize w1.alloc (.cells (cB 752 kc) 46) = w4 at *
  generalize w1.heap.size = gk at *
  obtain ⟨tg, htg⟩ : ∃ tg, tg = tagF (E (ctr nonce 1)) (ghash (blkW (E z16)) l1 (l2.take n)) := ⟨_, rfl⟩
  have HTG := Lib.hid htg
  have HSQ : Hid (((strOfNums (bytesL tg)).toList == (strOfNums (l2.drop n)).toList) = d) := by
    show (_ == _) = d
    rw [str_tag tg l2 n HBY.out HNN.out, HD.out, htg]
  clear htg
  refine start_ (n := 9) (S := fun w' => (Blk.ld 46 (.pointer (some ⟨gk, 0, none⟩))).run Try.prog w' = .ok (.agg (cB 752 kc)) w' ∧ (Blk.ld 23 (.pointer (some ⟨g + 1, 0, none⟩))).run Try.prog w' = .ok (.agg (cB 12 nonce)) w') (ds := []) #[false, false, false, false, false, false, false, false, false] (by kernel_rfl) rfl rfl ⟨(ld46_is HK.out.drew), (ld12_is HN.out.drew)⟩ (fun hHeld => ?_)
  replace HK := Lib.hid HK.out.drew
  replace HN := Lib.hid HN.out.drew
  replace HB := Lib.hid HB.out.drew
  generalize w4.drew = w5 at *
  refine pure_ (i := 2) (N := some 30) (v := ?_) (a' := ?_) #[false, false, true, false, false, false, false, false, false] rfl rfl (by kernel_rfl) (fun _ _ _ h => h) (Or.inl ⟨by rfl, ?_⟩) ?_ ?_
  rotate_left
  · intro w'
    go_simp
    with_reducible rfl
  rotate_left
  · simp only [Act.put, List.setIfInBounds_toArray, List.set_cons_zero, List.set_cons_succ, i64_w, i32_w]
    rfl
  refine pure_ (i := 3) (N := some 31) (v := ?_) (a' := ?_) #[false, false, true, true, false, false, false, false, false] rfl rfl (by kernel_rfl) (fun _ _ _ h => h) (Or.inl ⟨by rfl, ?_⟩) ?_ ?_
  rotate_left
  · intro w'
    go_simp
    with_reducible rfl
  rotate_left
  · simp only [Act.put, List.setIfInBounds_toArray, List.set_cons_zero, List.set_cons_succ, i64_w, i32_w]
    rfl
  refine pure_ (i := 4) (N := some 32) (v := ?_) (a' := ?_) #[false, false, true, true, true, false, false, false, false] rfl rfl (by kernel_rfl) (fun _ _ _ h => h) (Or.inl ⟨by rfl, ?_⟩) ?_ ?_
  rotate_left
  · intro w'
    go_simp
    with_reducible rfl
  rotate_left
  · simp only [Act.put, List.setIfInBounds_toArray, List.set_cons_zero, List.set_cons_succ, i64_w, i32_w]
    rfl
  refine pure_ (i := 5) (N := some 33) (v := ?_) (a' := ?_) #[false, false, true, true, true, true, false, false, false] rfl rfl (by kernel_rfl) (fun _ _ _ h => h) (Or.inl ⟨by rfl, ?_⟩) ?_ ?_
  rotate_left
  · intro w'
    go_simp
    with_reducible rfl
  rotate_left
  · simp only [Act.put, List.setIfInBounds_toArray, List.set_cons_zero, List.set_cons_succ, i64_w, i32_w]
    rfl
  refine take_ (i := 0) (N := some 28) (v := ?_) (a' := ?_) #[true, false, true, true, true, true, false, false, false] rfl rfl (by kernel_rfl) (fun _ _ _ h => h) (Or.inl ⟨by rfl, ?_⟩) hHeld ?_ ?_
  rotate_left
  · rintro w' ⟨s0, s1⟩
    go_simp
    with_reducible rfl
  rotate_left
  · simp only [Act.put, List.setIfInBounds_toArray, List.set_cons_zero, List.set_cons_succ, i64_w, i32_w]
    rfl
  refine take_ (i := 1) (N := some 29) (v := ?_) (a' := ?_) #[true, true, true, true, true, true, false, false, false] rfl rfl (by kernel_rfl) (fun _ _ _ h => h) (Or.inl ⟨by rfl, ?_⟩) hHeld ?_ ?_
  rotate_left
  · rintro w' ⟨s0, s1⟩
    go_simp
    with_reducible rfl
  rotate_left
  · simp only [Act.put, List.setIfInBounds_toArray, List.set_cons_zero, List.set_cons_succ, i64_w, i32_w]
    rfl
  refine join_ (σ := Nat) 1 #[true, true, true, true, true, true, true, true, false] (fun s => [(34, .agg (cB 16 tg)), (12, .pointer (some ⟨s, 0, none⟩))]) (fun s w' => Hid (Blk.Is w' s #[.int .u8 0, .int .u8 0, .int .u8 0, .int .u8 0, .int .u8 0, .int .u8 0, .int .u8 0, .int .u8 0, .int .u8 0, .int .u8 0, .int .u8 0, .int .u8 0, .int .u8 0, .int .u8 0, .int .u8 0, .int .u8 0] 37) ∧ Hid (gk < s) ∧ Hid (Blk.Is w' gk (cB 752 kc) 46) ∧ Hid (Blk.Is w' (g + 1) (cB 12 nonce) 23) ∧ Hid (Below g w w')) ?_ ?_
  rotate_left
  · intro hCont
    refine two_ (i := 6) (j := 7) (Ni := some 34) (Nj := some 12) #[true, true, true, true, true, true, true, false, false] #[true, true, true, true, true, true, false, true, false] rfl rfl rfl rfl (by kernel_rfl) (by decide) (by decide) (fun K hK => ?_) (fun K hK => ?_)
    · skip
      have htag := rtag_calls kc nonce E hE A1 (some ad) c1 c2 l1 (l2.take n) w5 (HT1.out _ HB.out) (HTB.out _ HB.out)
      rw [HTL.out] at htag
      refine goes_ Try.func27 (by kernel_rfl) rfl #[.agg (cB 752 kc), .agg (cB 12 nonce), .slice A1 l1.length c1, .slice (some ad) n c2] (by rfl) rfl rfl (by simp only [List.map_toArray, List.map_cons, List.map_nil]; rfl) ?_
      with_reducible refine htag.mono ?_
      rintro e w6 ⟨rfl, hb⟩
      refine ⟨_, rfl, ?_⟩
      rw [← HTG.out]
      replace HB := Lib.hid (HB.out.trans (hb.mono (by have := HK.out.lt; have := HGK.out; omega)))
      replace HK := Lib.hid (HK.out.below hb HK.out.lt)
      replace HN := Lib.hid (HN.out.below hb HN.out.lt)
      clear hb htag
      refine hK.out _ _ ⟨(ld46_is HK.out), (ld12_is HN.out)⟩ (fun hHeld => ?_)
      clear hK K
      refine norm_ (a' := ?_) ?_ ?_
      rotate_left
      · show Act.put _ (some 34) _ = _
        simp only [Act.put, List.setIfInBounds_toArray, List.set_cons_zero, List.set_cons_succ, i64_w, i32_w]
        rfl
      refine one_ (i := 7) (N := some 12) #[true, true, true, true, true, true, true, true, false] rfl rfl (by kernel_rfl) (by decide) (fun K hK => ?_)
      refine value_ (w1 := ?_) (v := ?_) (by rfl) rfl ?_ ?_
      rotate_left 2
      · go_simp
        constructor
        · rfl
        · rfl
      have HA := Lib.hid (Blk.Is.new w6 #[.int .u8 0, .int .u8 0, .int .u8 0, .int .u8 0, .int .u8 0, .int .u8 0, .int .u8 0, .int .u8 0, .int .u8 0, .int .u8 0, .int .u8 0, .int .u8 0, .int .u8 0, .int .u8 0, .int .u8 0, .int .u8 0] 37)
      have HAS : Hid (gk < w6.heap.size) := HK.out.lt
      replace HB := Lib.hid (HB.out.alloc (by have := HK.out.lt; have := HGK.out; omega) (.cells #[.int .u8 0, .int .u8 0, .int .u8 0, .int .u8 0, .int .u8 0, .int .u8 0, .int .u8 0, .int .u8 0, .int .u8 0, .int .u8 0, .int .u8 0, .int .u8 0, .int .u8 0, .int .u8 0, .int .u8 0, .int .u8 0] 37))
      replace HK := Lib.hid (HK.out.alloc (.cells #[.int .u8 0, .int .u8 0, .int .u8 0, .int .u8 0, .int .u8 0, .int .u8 0, .int .u8 0, .int .u8 0, .int .u8 0, .int .u8 0, .int .u8 0, .int .u8 0, .int .u8 0, .int .u8 0, .int .u8 0, .int .u8 0] 37))
      replace HN := Lib.hid (HN.out.alloc (.cells #[.int .u8 0, .int .u8 0, .int .u8 0, .int .u8 0, .int .u8 0, .int .u8 0, .int .u8 0, .int .u8 0, .int .u8 0, .int .u8 0, .int .u8 0, .int .u8 0, .int .u8 0, .int .u8 0, .int .u8 0, .int .u8 0] 37))
      generalize w6.alloc (.cells #[.int .u8 0, .int .u8 0, .int .u8 0, .int .u8 0, .int .u8 0, .int .u8 0, .int .u8 0, .int .u8 0, .int .u8 0, .int .u8 0, .int .u8 0, .int .u8 0, .int .u8 0, .int .u8 0, .int .u8 0, .int .u8 0] 37) = w7 at *
      generalize w6.heap.size = sa at *
      refine hK.out _ _ ⟨(ld46_is HK.out), (ld12_is HN.out)⟩ (fun hHeld => ?_)
      clear hK K
      refine norm_ (a' := ?_) ?_ ?_
      rotate_left
      · show Act.put _ (some 12) _ = _
        simp only [Act.put, List.setIfInBounds_toArray, List.set_cons_zero, List.set_cons_succ, i64_w, i32_w]
        rfl
      exact norm_ (by simp only [putAll, Act.put, List.setIfInBounds_toArray, List.set_cons_zero, List.set_cons_succ]) (hCont sa _ ⟨HA, HAS, HK, HN, HB⟩)
    · skip
      refine value_ (w1 := ?_) (v := ?_) (by rfl) rfl ?_ ?_
      rotate_left 2
      · go_simp
        constructor
        · rfl
        · rfl
      have HA := Lib.hid (Blk.Is.new w5 #[.int .u8 0, .int .u8 0, .int .u8 0, .int .u8 0, .int .u8 0, .int .u8 0, .int .u8 0, .int .u8 0, .int .u8 0, .int .u8 0, .int .u8 0, .int .u8 0, .int .u8 0, .int .u8 0, .int .u8 0, .int .u8 0] 37)
      have HAS : Hid (gk < w5.heap.size) := HK.out.lt
      replace HB := Lib.hid (HB.out.alloc (by have := HK.out.lt; have := HGK.out; omega) (.cells #[.int .u8 0, .int .u8 0, .int .u8 0, .int .u8 0, .int .u8 0, .int .u8 0, .int .u8 0, .int .u8 0, .int .u8 0, .int .u8 0, .int .u8 0, .int .u8 0, .int .u8 0, .int .u8 0, .int .u8 0, .int .u8 0] 37))
      replace HK := Lib.hid (HK.out.alloc (.cells #[.int .u8 0, .int .u8 0, .int .u8 0, .int .u8 0, .int .u8 0, .int .u8 0, .int .u8 0, .int .u8 0, .int .u8 0, .int .u8 0, .int .u8 0, .int .u8 0, .int .u8 0, .int .u8 0, .int .u8 0, .int .u8 0] 37))
      replace HN := Lib.hid (HN.out.alloc (.cells #[.int .u8 0, .int .u8 0, .int .u8 0, .int .u8 0, .int .u8 0, .int .u8 0, .int .u8 0, .int .u8 0, .int .u8 0, .int .u8 0, .int .u8 0, .int .u8 0, .int .u8 0, .int .u8 0, .int .u8 0, .int .u8 0] 37))
      generalize w5.alloc (.cells #[.int .u8 0, .int .u8 0, .int .u8 0, .int .u8 0, .int .u8 0, .int .u8 0, .int .u8 0, .int .u8 0, .int .u8 0, .int .u8 0, .int .u8 0, .int .u8 0, .int .u8 0, .int .u8 0, .int .u8 0, .int .u8 0] 37) = w6 at *
      generalize w5.heap.size = sa at *
      refine hK.out _ _ ⟨(ld46_is HK.out), (ld12_is HN.out)⟩ (fun hHeld => ?_)
      clear hK K
      refine norm_ (a' := ?_) ?_ ?_
      rotate_left
      · show Act.put _ (some 12) _ = _
        simp only [Act.put, List.setIfInBounds_toArray, List.set_cons_zero, List.set_cons_succ, i64_w, i32_w]
        rfl
      refine one_ (i := 6) (N := some 34) #[true, true, true, true, true, true, true, true, false] rfl rfl (by kernel_rfl) (by decide) (fun K hK => ?_)
      have htag := rtag_calls kc nonce E hE A1 (some ad) c1 c2 l1 (l2.take n) w6 (HT1.out _ HB.out) (HTB.out _ HB.out)
      rw [HTL.out] at htag
      refine goes_ Try.func27 (by kernel_rfl) rfl #[.agg (cB 752 kc), .agg (cB 12 nonce), .slice A1 l1.length c1, .slice (some ad) n c2] (by rfl) rfl rfl (by simp only [List.map_toArray, List.map_cons, List.map_nil]; rfl) ?_
      with_reducible refine htag.mono ?_
      rintro e w7 ⟨rfl, hb⟩
      refine ⟨_, rfl, ?_⟩
      rw [← HTG.out]
      replace HB := Lib.hid (HB.out.trans (hb.mono (by have := HK.out.lt; have := HGK.out; omega)))
      replace HK := Lib.hid (HK.out.below hb HK.out.lt)
      replace HN := Lib.hid (HN.out.below hb HN.out.lt)
      replace HA := Lib.hid (HA.out.below hb HA.out.lt)
      clear hb htag
      refine hK.out _ _ ⟨(ld46_is HK.out), (ld12_is HN.out)⟩ (fun hHeld => ?_)
      clear hK K
      refine norm_ (a' := ?_) ?_ ?_
      rotate_left
      · show Act.put _ (some 34) _ = _
        simp only [Act.put, List.setIfInBounds_toArray, List.set_cons_zero, List.set_cons_succ, i64_w, i32_w]
        rfl
      exact norm_ (by simp only [putAll, Act.put, List.setIfInBounds_toArray, List.set_cons_zero, List.set_cons_succ]) (hCont sa _ ⟨HA, HAS, HK, HN, HB⟩)
  rintro sa w8 ⟨HA, HAS, HK, HN, HB⟩
  have hHeld : (Blk.ld 46 (.pointer (some ⟨gk, 0, none⟩))).run Try.prog w8 = .ok (.agg (cB 752 kc)) w8 ∧ (Blk.ld 23 (.pointer (some ⟨g + 1, 0, none⟩))).run Try.prog w8 = .ok (.agg (cB 12 nonce)) w8 := ⟨ld46_is HK.out, ld12_is HN.out⟩
  refine norm_ (a' := ?_) ?_ ?_
  rotate_left
  · simp only [putAll, Act.put, List.setIfInBounds_toArray, List.set_cons_zero, List.set_cons_succ]
    rfl
  refine one_ (i := 8) (N := none) #[true, true, true, true, true, true, true, true, true] rfl rfl (by kernel_rfl) (by decide) (fun K hK => ?_)
  have hss := Blk.store_row (P := Try.prog) (t := 37) (cB 16 tg) HA.out (by rw [cB_size]; kernel_rfl) (by rw [cB_size]; rfl) (cB_one _ _)
  refine skip_ (w1 := ?_) (by rfl) rfl ?_ ?_
  rotate_left
  · go_simp
    rfl
  have hkp : Keeps sa w8 (w8.setRow sa (cB 16 tg)) := ⟨Blk.below_setRow (Below.refl _ _) (Nat.le_refl _) _, fun k _ hk => setRow_other w8 sa k _ hk⟩
  replace HK := Lib.hid (hkp.is HK.out (by have := HAS.out; have := HGK.out; omega))
  replace HN := Lib.hid (hkp.is HN.out (by have := HAS.out; have := HGK.out; omega))
  replace HB := Lib.hid (HB.out.trans (hkp.below.mono (by have := HAS.out; have := HGK.out; omega)))
  replace HA := Lib.hid (HA.out.setRow (cB 16 tg))
  clear hkp hss
  generalize w8.setRow sa (cB 16 tg) = w9 at *
  refine hK.out _ _ ⟨(ld46_is HK.out), (ld12_is HN.out)⟩ (fun hHeld => ?_)
  clear hK K
  refine done_ (by kernel_rfl) ?_
  go_wp2_with fail
  refine start_ (n := 7) (S := fun w' => (convert 24 9 (.slice (some ⟨sa, 0, none⟩) 16 16)).run Try.prog w' = .ok (.string (strOfNums (bytesL tg))) w' ∧ (convert 24 9 (.slice (some (ad.add n)) 16 (c2 - n))).run Try.prog w' = .ok (.string (strOfNums (l2.drop n))) w') (ds := []) #[false, false, false, false, false, false, false] (by kernel_rfl) rfl rfl ⟨(cv_tag HA.out.drew), (cv_tail (HT2.out _ HB.out.drew) n HNN.out)⟩ (fun hHeld => ?_)
  replace HK := Lib.hid HK.out.drew
  replace HN := Lib.hid HN.out.drew
  replace HB := Lib.hid HB.out.drew
  replace HA := Lib.hid HA.out.drew
  generalize w9.drew = w10 at *
  refine pure_ (i := 0) (N := some 35) (v := ?_) (a' := ?_) #[true, false, false, false, false, false, false] rfl rfl (by kernel_rfl) (fun _ _ _ h => h) (Or.inl ⟨by rfl, ?_⟩) ?_ ?_
  rotate_left
  · intro w'
    go_simp
    with_reducible rfl
  rotate_left
  · simp only [Act.put, List.setIfInBounds_toArray, List.set_cons_zero, List.set_cons_succ, i64_w, i32_w]
    rfl
  refine pure_ (i := 2) (N := some 37) (v := ?_) (a' := ?_) #[true, false, true, false, false, false, false] rfl rfl (by kernel_rfl) (fun _ _ _ h => h) (Or.inl ⟨by rfl, ?_⟩) ?_ ?_
  rotate_left
  · intro w'
    go_simp
    with_reducible rfl
  rotate_left
  · simp only [Act.put, List.setIfInBounds_toArray, List.set_cons_zero, List.set_cons_succ, i64_w, i32_w]
    rfl
  refine pure_ (i := 3) (N := some 38) (v := ?_) (a' := ?_) #[true, false, true, true, false, false, false] rfl rfl (by kernel_rfl) (fun _ _ _ h => h) (Or.inl ⟨by rfl, ?_⟩) ?_ ?_
  rotate_left
  · intro w'
    go_simp
    with_reducible rfl
  rotate_left
  · simp only [Act.put, List.setIfInBounds_toArray, List.set_cons_zero, List.set_cons_succ, i64_w, i32_w]
    rfl
  refine pure_ (i := 4) (N := some 39) (v := ?_) (a' := ?_) #[true, false, true, true, true, false, false] rfl rfl (by kernel_rfl) (fun _ _ _ h => h) (Or.inl ⟨by rfl, ?_⟩) ?_ ?_
  rotate_left
  · intro w'
    go_simp
    with_reducible rfl
  rotate_left
  · simp only [Act.put, List.setIfInBounds_toArray, List.set_cons_zero, List.set_cons_succ, i64_w, i32_w]
    rfl
  refine take_ (i := 1) (N := some 36) (v := ?_) (a' := ?_) #[true, true, true, true, true, false, false] rfl rfl (by kernel_rfl) (fun _ _ _ h => h) (Or.inl ⟨by rfl, ?_⟩) hHeld ?_ ?_
  rotate_left
  · rintro w' ⟨s0, s1⟩
    go_simp
    with_reducible rfl
  rotate_left
  · simp only [Act.put, List.setIfInBounds_toArray, List.set_cons_zero, List.set_cons_succ, i64_w, i32_w]
    rfl
  refine take_ (i := 5) (N := some 40) (v := ?_) (a' := ?_) #[true, true, true, true, true, true, false] rfl rfl (by kernel_rfl) (fun _ _ _ h => h) (Or.inl ⟨by rfl, ?_⟩) hHeld ?_ ?_
  rotate_left
  · rintro w' ⟨s0, s1⟩
    go_simp
    with_reducible rfl
  rotate_left
  · simp only [Act.put, List.setIfInBounds_toArray, List.set_cons_zero, List.set_cons_succ, i64_w, i32_w]
    rfl
  refine pure_ (i := 6) (N := some 41) (v := ?_) (a' := ?_) #[true, true, true, true, true, true, true] rfl rfl (by kernel_rfl) (fun _ _ _ h => h) (Or.inl ⟨by rfl, ?_⟩) ?_ ?_
  rotate_left
  · intro w'
    go_simp
    with_reducible rfl
  rotate_left
  · simp only [Act.put, List.setIfInBounds_toArray, List.set_cons_zero, List.set_cons_succ, i64_w, i32_w]
    rfl
  refine done_ (by kernel_rfl) ?_
  rw [HSQ.out]
  cases d with
  | false =>
    simp only [Bool.not_false]
    go_wp2_with fail
    go_ret2
    exact ⟨_, rfl, Row.Is.nil _ _, by rw [HG.out]; exact HB.out⟩
  | true =>
    simp only [Bool.not_true]
    go_wp2_with fail
    clear hcn hln
    refine start_ (n := 8) (S := fun w' => (Blk.ld 46 (.pointer (some ⟨gk, 0, none⟩))).run Try.prog w' = .ok (.agg (cB 752 kc)) w' ∧ (Blk.ld 23 (.pointer (some ⟨g + 1, 0, none⟩))).run Try.prog w' = .ok (.agg (cB 12 nonce)) w') (ds := []) #[false, false, false, false, false, false, false, false] (by kernel_rfl) rfl rfl ⟨(ld46_is HK.out.drew), (ld12_is HN.out.drew)⟩ (fun hHeld => ?_)
    replace HK := Lib.hid HK.out.drew
    replace HN := Lib.hid HN.out.drew
    replace HB := Lib.hid HB.out.drew
    generalize w10.drew = w11 at *
    refine pure_ (i := 2) (N := some 44) (v := ?_) (a' := ?_) #[false, false, true, false, false, false, false, false] rfl rfl (by kernel_rfl) (fun _ _ _ h => h) (Or.inl ⟨by rfl, ?_⟩) ?_ ?_
    rotate_left
    · intro w'
      go_simp
      with_reducible rfl
    rotate_left
    · simp only [Act.put, List.setIfInBounds_toArray, List.set_cons_zero, List.set_cons_succ, i64_w, i32_w]
      rfl
    refine pure_ (i := 3) (N := some 45) (v := ?_) (a' := ?_) #[false, false, true, true, false, false, false, false] rfl rfl (by kernel_rfl) (fun _ _ _ h => h) (Or.inl ⟨by rfl, ?_⟩) ?_ ?_
    rotate_left
    · intro w'
      go_simp
      with_reducible rfl
    rotate_left
    · simp only [Act.put, List.setIfInBounds_toArray, List.set_cons_zero, List.set_cons_succ, i64_w, i32_w]
      rfl
    refine pure_ (i := 4) (N := some 46) (v := ?_) (a' := ?_) #[false, false, true, true, true, false, false, false] rfl rfl (by kernel_rfl) (fun _ _ _ h => h) (Or.inl ⟨by rfl, ?_⟩) ?_ ?_
    rotate_left
    · intro w'
      go_simp
      with_reducible rfl
    rotate_left
    · simp only [Act.put, List.setIfInBounds_toArray, List.set_cons_zero, List.set_cons_succ, i64_w, i32_w]
      rfl
    refine take_ (i := 0) (N := some 42) (v := ?_) (a' := ?_) #[true, false, true, true, true, false, false, false] rfl rfl (by kernel_rfl) (fun _ _ _ h => h) (Or.inl ⟨by rfl, ?_⟩) hHeld ?_ ?_
    rotate_left
    · rintro w' ⟨s0, s1⟩
      go_simp
      with_reducible rfl
    rotate_left
    · simp only [Act.put, List.setIfInBounds_toArray, List.set_cons_zero, List.set_cons_succ, i64_w, i32_w]
      rfl
    refine take_ (i := 1) (N := some 43) (v := ?_) (a' := ?_) #[true, true, true, true, true, false, false, false] rfl rfl (by kernel_rfl) (fun _ _ _ h => h) (Or.inl ⟨by rfl, ?_⟩) hHeld ?_ ?_
    rotate_left
    · rintro w' ⟨s0, s1⟩
      go_simp
      with_reducible rfl
    rotate_left
    · simp only [Act.put, List.setIfInBounds_toArray, List.set_cons_zero, List.set_cons_succ, i64_w, i32_w]
      rfl
    refine one_ (i := 5) (N := some 47) #[true, true, true, true, true, true, false, false] rfl rfl (by kernel_rfl) (by decide) (fun K hK => ?_)
    have htu := rturned_calls kc nonce E hE (some ad) c2 (l2.take n) w11 (HTB.out _ HB.out) (by rw [HTL.out]; have := HS2.out; omega)
    rw [HTL.out] at htu
    refine goes_ Try.func26 (by kernel_rfl) rfl #[.agg (cB 752 kc), .agg (cB 12 nonce), .slice (some ad) n c2] (by rfl) rfl rfl (by simp only [List.map_toArray, List.map_cons, List.map_nil]; rfl) ?_
    with_reducible refine htu.mono ?_
    rintro e w12 ⟨v, rfl, hR, hb⟩
    refine ⟨_, rfl, ?_⟩
    have HGW : Hid (g ≤ w11.heap.size) := by have := HK.out.lt; have := HGK.out; show g ≤ w11.heap.size; omega
    have HR := Lib.hid hR
    replace HB := Lib.hid (HB.out.trans (hb.mono HGW.out))
    replace HK := Lib.hid (HK.out.below hb HK.out.lt)
    replace HN := Lib.hid (HN.out.below hb HN.out.lt)
    clear hb hR htu
    refine hK.out _ _ ⟨(ld46_is HK.out), (ld12_is HN.out)⟩ (fun hHeld => ?_)
    clear hK K
    refine norm_ (a' := ?_) ?_ ?_
    rotate_left
    · show Act.put _ (some 47) _ = _
      simp only [Act.put, List.setIfInBounds_toArray, List.set_cons_zero, List.set_cons_succ, i64_w, i32_w]
      rfl
    refine pure_ (i := 6) (N := some 8) (v := ?_) (a' := ?_) #[true, true, true, true, true, true, true, false] rfl rfl (by kernel_rfl) (fun _ _ _ h => h) (Or.inl ⟨by rfl, ?_⟩) ?_ ?_
    rotate_left
    · intro w'
      go_simp
      with_reducible rfl
    rotate_left
    · simp only [Act.put, List.setIfInBounds_toArray, List.set_cons_zero, List.set_cons_succ, i64_w, i32_w]
      rfl
    refine pure_ (i := 7) (N := some 9) (v := ?_) (a' := ?_) #[true, true, true, true, true, true, true, true] rfl rfl (by kernel_rfl) (fun _ _ _ h => h) (Or.inl ⟨by rfl, ?_⟩) ?_ ?_
    rotate_left
    · intro w'
      go_simp
      with_reducible rfl
    rotate_left
    · simp only [Act.put, List.setIfInBounds_toArray, List.set_cons_zero, List.set_cons_succ, i64_w, i32_w]
      rfl
    refine done_ (by kernel_rfl) ?_
    go_wp2_with fail
    go_ret2
    exact ⟨v, rfl, HR.out.lower (by rw [HG.out]; exact HGW.out), by rw [HG.out]; exact HB.out⟩
end Go.Proofs.Ytbebmbcjddibaaa.Gcm
