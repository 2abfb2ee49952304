/- What is said here: the program's hash of two texts is the field's. -/
import Derived.Test.YtbebmbcjddibaaaGf
import Derived.Test.YtbebmbcjddibaaaGcmR
namespace Go.Proofs.Ytbebmbcjddibaaa.Gcm
set_option linter.unusedVariables false
set_option linter.unusedSimpArgs false
open Go.RowKit Go.Proofs.YtbebmbcjddibaaaW.PrintWords Go.Proofs.YtbebmbcjddibaaaW.PrintLast Go.Proofs.YtbebmbcjddibaaaW.PrintMore Go.Proofs.Ytbebmbcjddibaaa.PG Gf Gfi Poly AesF Aes Lng
theorem ld74 (x : Value) : Instr.loadAt 74 x = Blk.ld 74 x := rfl
theorem st74 (x v : Value) : Instr.storeAt 74 x v = Blk.st 74 x v := rfl
attribute [local go_sem ↓] ld74 st74
attribute [local go_sem] max2_int min2_int max_two min_two
/-- A long element's two cells. -/
def Lw (x : W) : Array Value := #[.int .u64 (o64 (hi x)), .int .u64 (o64 (lo x))]
theorem Lw_zero : (#[.int .u64 0, .int .u64 0] : Array Value) = Lw 0#128 := rfl
theorem Lw_size (x : W) : (Lw x).size = 2 := rfl
theorem Lw_one (x : W) : (Lw x).all (·.oneCell') = true := by simp [Lw, Value.oneCell']
theorem hi_xor (a b : W) : hi (a ^^^ b) = hi a ^^^ hi b := by
  apply BitVec.eq_of_getLsbD_eq
  intro j hj
  rw [hi_bit _ j hj, BitVec.getLsbD_xor, BitVec.getLsbD_xor, hi_bit _ j hj, hi_bit _ j hj]
theorem lo_xor (a b : W) : lo (a ^^^ b) = lo a ^^^ lo b := by
  apply BitVec.eq_of_getLsbD_eq
  intro j hj
  rw [lo_bit _ j hj, BitVec.getLsbD_xor, BitVec.getLsbD_xor, lo_bit _ j hj, lo_bit _ j hj]
theorem x_hi (a b : W) : Go.bits .xor .u64 (o64 (hi a)) (o64 (hi b)) = o64 (hi (a ^^^ b)) := by rw [(bits64 _ _).1, hi_xor]
theorem x_lo (a b : W) : Go.bits .xor .u64 (o64 (lo a)) (o64 (lo b)) = o64 (lo (a ^^^ b)) := by rw [(bits64 _ _).1, lo_xor]
/-- Eight times the two lengths. -/
def lenW (m n : Nat) : W := (BitVec.ofNat 64 (8 * m) ++ BitVec.ofNat 64 (8 * n) : BitVec (64 + 64))
theorem hi_len (m n : Nat) : hi (lenW m n) = BitVec.ofNat 64 (8 * m) := by
  apply BitVec.eq_of_getLsbD_eq
  intro j hj
  rw [hi_bit _ j hj]
  unfold lenW
  rw [BitVec.getLsbD_append, if_neg (by omega), Nat.add_sub_cancel_left]
theorem lo_len (m n : Nat) : lo (lenW m n) = BitVec.ofNat 64 (8 * n) := by
  apply BitVec.eq_of_getLsbD_eq
  intro j hj
  rw [lo_bit _ j hj]
  unfold lenW
  rw [BitVec.getLsbD_append, if_pos hj]
/-- Sixteen bytes of a text. -/
def chunk (l : List Int) (a : Nat) : Nat → B := fun i => toB (l.getD (a + i) 0)
def absN (H y : W) (l : List Int) : Nat → W
  | 0 => y
  | n + 1 => gm (absN H y l n ^^^ blkW (chunk l (16 * n))) H
def absorb (H y : W) (l : List Int) : W := absN H y l ((l.length + 15) / 16)
def yp (H : W) (l m : List Int) : Nat → W
  | 0 => 0#128
  | 1 => absorb H 0#128 l
  | _ => absorb H (absorb H 0#128 l) m
def ghash (H : W) (l m : List Int) : W := gm (absorb H (absorb H 0#128 l) m ^^^ lenW l.length m.length) H
theorem st74_new (w : World) (x : W) : (Blk.st 74 (.pointer (some ⟨w.heap.size, 0, none⟩)) (.agg (Lw x))).run Try.prog (w.alloc (.cells #[.int .u64 0, .int .u64 0] 74)) = .ok () (w.alloc (.cells (Lw x) 74)) :=
  run_storeAt_new w 74 _ _ (by rw [Lw_size]; kernel_rfl) (by rw [Lw_size]; rfl) (Lw_one x)
theorem Lw_cell {W0 : World} {b : Nat} {x : W} {T : TypeId} (h : Blk.Is W0 b (Lw x) T) : W0.cell? ⟨b, 0, none⟩ = some (.int .u64 (o64 (hi x))) ∧ W0.cell? ⟨b, 1, none⟩ = some (.int .u64 (o64 (lo x))) := by
  rw [h.cell, h.cell]
  exact ⟨rfl, rfl⟩
/-- A text in memory: bytes, and not too many. -/
structure Txt (w : World) (A : Option Addr) (c : Nat) (l : List Int) : Prop where
  row : Kd.C (Kd.int .u8) w A l.length l
  le : l.length ≤ c
  by_ : ∀ x ∈ l, 0 ≤ x ∧ x < 256
  few : l.length < 1000000
theorem Txt.below {w w' : World} {A : Option Addr} {c : Nat} {l : List Int} (h : Txt w A c l) (hb : Below w.heap.size w w') : Txt w' A c l := ⟨Kd.C_below h.row hb, h.le, h.by_, h.few⟩
theorem chunk_at (l : List Int) (hl : ∀ x ∈ l, 0 ≤ x ∧ x < 256) (a e : Nat) (he : e = min (a + 16) l.length) (i : Nat) (hi_ : i < 16) : (((l.take e).drop a).getD i 0) = ofB (chunk l a i) := by
  have hr : ∀ x, x ∈ l ∨ x = 0 → ofB (toB x) = x := fun x h => by
    rcases h with h | rfl
    · exact ofB_toB (hl x h).1 (hl x h).2
    · rfl
  have hg : l.getD (a + i) 0 ∈ l ∨ l.getD (a + i) 0 = 0 := by
    rw [List.getD_eq_getElem?_getD]
    by_cases h : a + i < l.length
    · rw [List.getElem?_eq_getElem h]; exact Or.inl (List.getElem_mem h)
    · rw [List.getElem?_eq_none (by omega)]; exact Or.inr rfl
  unfold chunk
  rw [hr _ hg, List.getD_eq_getElem?_getD, List.getD_eq_getElem?_getD, List.getElem?_drop, List.getElem?_take]
  by_cases h : a + i < e
  · rw [if_pos h]
  · rw [if_neg h, List.getElem?_eq_none (by omega)]
theorem read_at {W0 : World} {A : Option Addr} {c : Nat} {l : List Int} (a e k : Nat) (hT : Txt W0 A c l) (he : e = min (a + 16) l.length) (ha : a < l.length) (hk : k = e - a) :
    Calls Try.prog 37 #[.slice (A.map (·.add a)) k (c - a)] W0 fun e' w' => e' = .returned (.agg (Lw (blkW (chunk l a)))) ∧ Below W0.heap.size W0 w' := by
  have hle := hT.le
  have hr := Kd.reads_of_C (d := (0 : Int)) hT.row
  have h1 := hr.take_ e (by omega)
  have h2 := ReadsOf.drop_ h1 (c := c) a (by omega) (by omega)
  rw [if_neg (by omega)] at h2
  have hlen : ((l.take e).drop a).length = k := by rw [List.length_drop, List.length_take]; omega
  have hC : Kd.C (Kd.int .u8) W0 (A.map (·.add a)) ((l.take e).drop a).length ((l.take e).drop a) := by
    rw [hlen, hk]
    exact Kd.C_of_reads (d := (0 : Int)) (h1 := fun _ => rfl) h2
  have h := gcm_read.calls 40 (A.map (·.add a)) (c - a) ((l.take e).drop a) _ _ W0 hC (by rw [hlen]; omega) (read_f _ (chunk l a) (fun i hi => chunk_at l hT.by_ a e he i hi))
  rw [hlen] at h
  exact h
theorem times_at (X Y : W) (W0 : World) : Calls Try.prog 48 #[.agg #[.int .u64 (o64 (hi X)), .int .u64 (o64 (lo X))], .agg (Lw Y)] W0 fun e w' => e = .returned (.agg (Lw (gm X Y))) ∧ Below W0.heap.size W0 w' :=
  gcm_long_times.calls 200 _ _ _ _ _ _ W0 (times_f X Y)
theorem len64 (m : Nat) (h : m < 1000000) : IntKind.u64.wrap (m : Int) = (m : Int) ∧ IntKind.u64.wrap (8 * (m : Int)) = o64 (BitVec.ofNat 64 (8 * m)) := by
  refine ⟨by rw [w64]; omega, ?_⟩
  unfold o64
  rw [w64, BitVec.toNat_ofNat]
  show _ = ((8 * m % 18446744073709551616 : Nat) : Int)
  omega
set_option maxRecDepth 100000 in
set_option maxHeartbeats 4000000 in
theorem hash_calls (H : W) (A1 A2 : Option Addr) (c1 c2 : Nat) (l1 l2 : List Int) (w : World) (h1 : Txt w A1 c1 l1) (h2 : Txt w A2 c2 l2) :
    Calls Try.prog 36 #[.agg (Lw H), .slice A1 l1.length c1, .slice A2 l2.length c2] w fun e w' => e = .returned (.agg (Lw (ghash H l1 l2))) ∧ Below w.heap.size w w' := by
  have e1 : (w.alloc (.cells (Lw H) 74)).heap.size = w.heap.size + 1 := by simp
  have e2 : ((w.alloc (.cells (Lw H) 74)).alloc (.cells (Lw 0#128) 74)).heap.size = w.heap.size + 1 + 1 := by simp
  have HH0 := Lib.hid (((Blk.Is.new w (Lw H) 74).alloc (.cells (Lw 0#128) 74)).alloc (.cells #[.slice A1 l1.length c1, .slice A2 l2.length c2] 24))
  have HY0 := Lib.hid ((Blk.Is.new (w.alloc (.cells (Lw H) 74)) (Lw 0#128) 74).alloc (.cells #[.slice A1 l1.length c1, .slice A2 l2.length c2] 24))
  have HP0 := Lib.hid (Blk.Is.new ((w.alloc (.cells (Lw H) 74)).alloc (.cells (Lw 0#128) 74)) #[.slice A1 l1.length c1, .slice A2 l2.length c2] 24)
  rw [e1] at HY0
  rw [e2] at HP0
  have HB0 := Lib.hid ((((Below.refl _ w).alloc (Nat.le_refl _) (.cells (Lw H) 74)).alloc (by omega) (.cells (Lw 0#128) 74)).alloc (by omega) (.cells #[.slice A1 l1.length c1, .slice A2 l2.length c2] 24))
  have HT1 := Lib.hid (h1.below HB0.out)
  have HT2 := Lib.hid (h2.below HB0.out)
  have HT1R : Hid (∀ v v' : World, Txt v A1 c1 l1 → Below w.heap.size w v' → Txt v' A1 c1 l1) := fun v v' _ hb => h1.below hb
  have HT2R : Hid (∀ v v' : World, Txt v A2 c2 l2 → Below w.heap.size w v' → Txt v' A2 c2 l2) := fun v v' _ hb => h2.below hb
  clear h1 h2 e1 e2
  go_enter Try.func36, Try.ntmps36
  go_wp2_with fail
  rw [Lw_zero]
  generalize ((w.alloc (.cells (Lw H) 74)).alloc (.cells (Lw 0#128) 74)).alloc (.cells #[.slice A1 l1.length c1, .slice A2 l2.length c2] 24) = w0 at *
  generalize hg : w.heap.size = g at *
  have HG := Lib.hid hg
  clear hg
  go_loopw [8, 9, 10, 15, 16, 17, 18, 19, 20, 21, 22, 23, 24, 25, 26, 27, 28, 29, 30, 31, 32, 33, 34, 35, 36, 37, 38, 39, 40, 41, 42, 43, 44, 45, 46, 47] (fun v8 v9 v10 v15 v16 v17 v18 v19 v20 v21 v22 v23 v24 v25 v26 v27 v28 v29 v30 v31 v32 v33 v34 v35 v36 v37 v38 v39 v40 v41 v42 v43 v44 v45 v46 v47 wr => ∃ (p : Nat), p ≤ 2 ∧ v15 = .int .i64 (p : Int) ∧ Hid (Blk.Is wr (g + 1) (Lw (yp H l1 l2 p)) 74) ∧ Hid (Blk.Is wr g (Lw H) 74) ∧ Hid (Blk.Is wr (g + 1 + 1) #[.slice A1 l1.length c1, .slice A2 l2.length c2] 24) ∧ Hid (Txt wr A1 c1 l1) ∧ Hid (Txt wr A2 c2 l2) ∧ Hid (Below g w wr)) (fun _ _ _ v15 _ _ _ _ _ _ _ _ _ _ _ _ _ _ _ _ _ _ _ _ _ _ _ _ _ _ _ _ _ _ _ _ _ => 2 - (intOf v15).toNat)
  case atStart => exact ⟨0, by omega, rfl, HY0, HH0, HP0, HT1, HT2, HB0⟩
  case round =>
    clear HY0 HH0 HP0 HT1 HT2 HB0
    obtain ⟨p, hp, rfl, HY, HH, HP, HT1, HT2, HB⟩ := hrel
    obtain ⟨wo, rfl⟩ : ∃ wo, wo = wr := ⟨_, rfl⟩
    by_cases hlt : p < 2
    · obtain ⟨A, l, c, hcell, hT, hyn⟩ : ∃ A l c, wo.cell? ⟨g + 1 + 1, p, none⟩ = some (.slice A l.length c) ∧ Hid (∀ W, Txt W A1 c1 l1 → Txt W A2 c2 l2 → Txt W A c l) ∧ Hid (absorb H (yp H l1 l2 p) l = yp H l1 l2 (p + 1)) := by
        have hp2 : p = 0 ∨ p = 1 := by omega
        rcases hp2 with rfl | rfl
        · exact ⟨A1, l1, c1, by rw [HP.out.cell]; rfl, fun W h _ => h, rfl⟩
        · exact ⟨A2, l2, c2, by rw [HP.out.cell]; rfl, fun W _ h => h, rfl⟩
      generalize yp H l1 l2 p = y at *
      go_wp2_with fail
      clear hcell
      generalize decide ((p : Int) < 2) = dp at *
      go_loopw [9, 10, 19, 20, 21, 22, 23, 24, 25, 26, 27, 28, 29, 30, 31, 32, 33, 34, 35, 36, 37, 38, 39, 40, 41, 42, 43, 44, 45, 46] (fun v9 v10 v19 v20 v21 v22 v23 v24 v25 v26 v27 v28 v29 v30 v31 v32 v33 v34 v35 v36 v37 v38 v39 v40 v41 v42 v43 v44 v45 v46 wl => ∃ (a n : Nat), v9 = .int .i64 (a : Int) ∧ Hid (a = 16 * n) ∧ a < l.length + 16 ∧ Hid (Blk.Is wl (g + 1) (Lw (absN H y l n)) 74) ∧ Hid (Blk.Is wl g (Lw H) 74) ∧ Hid (Blk.Is wl (g + 1 + 1) #[.slice A1 l1.length c1, .slice A2 l2.length c2] 24) ∧ Hid (Txt wl A1 c1 l1) ∧ Hid (Txt wl A2 c2 l2) ∧ Hid (Below g w wl)) (fun v9 _ _ _ _ _ _ _ _ _ _ _ _ _ _ _ _ _ _ _ _ _ _ _ _ _ _ _ _ _ _ => (l.length + 16) - (intOf v9).toNat)
      case atStart => exact ⟨0, 0, rfl, rfl, by omega, HY, HH, HP, HT1, HT2, HB⟩
      case round =>
        clear HY HH HP HT1 HT2 HB
        obtain ⟨a, n, rfl, HA, ha, HY, HH, HP, HT1, HT2, HB⟩ := hrel
        have HTL := Lib.hid (hT.out _ HT1.out HT2.out)
        have hfew := HTL.out.few
        by_cases hla : a < l.length
        · obtain ⟨e, he⟩ : ∃ e : Nat, e = min (a + 16) l.length := ⟨_, rfl⟩
          by_cases h16 : a + 16 ≤ l.length
          · have hle := HTL.out.le
            go_wp2_with fail
            refine (read_at a e 16 HTL.out he hla (by omega)).mono ?_
            rintro e' w5 ⟨rfl, hb⟩
            have HY5 := Lib.hid (HY.out.below hb HY.out.lt)
            have HH5 := Lib.hid (HH.out.below hb HH.out.lt)
            have HP5 := Lib.hid (HP.out.below hb HP.out.lt)
            have HT15 := Lib.hid (HT1.out.below hb)
            have HT25 := Lib.hid (HT2.out.below hb)
            have HB5 := Lib.hid (HB.out.trans (hb.mono (by have := HP.out.lt; omega)))
            clear hb HY HH HP HT1 HT2 HB HTL
            obtain ⟨x, hx⟩ : ∃ x, x = blkW (chunk l a) := ⟨_, rfl⟩
            rw [← hx]
            have HX := Lib.hid hx
            clear hx
            have hst := st74_new w5 x
            have HQ := Lib.hid (Blk.Is.new w5 (Lw x) 74)
            have hgt : Hid (g + 1 + 1 < w5.heap.size) := HP5.out.lt
            have HY6 := Lib.hid (HY5.out.alloc (.cells (Lw x) 74))
            have HH6 := Lib.hid (HH5.out.alloc (.cells (Lw x) 74))
            have HP6 := Lib.hid (HP5.out.alloc (.cells (Lw x) 74))
            have HT16 := Lib.hid (HT15.out.below ((Below.refl _ w5).alloc (Nat.le_refl _) (.cells (Lw x) 74)))
            have HT26 := Lib.hid (HT25.out.below ((Below.refl _ w5).alloc (Nat.le_refl _) (.cells (Lw x) 74)))
            have HB6 := Lib.hid (HB5.out.alloc (by have := hgt.out; omega) (.cells (Lw x) 74))
            clear HY5 HH5 HP5 HT15 HT25 HB5
            obtain ⟨ym, hym⟩ : ∃ ym, ym = absN H y l n := ⟨_, rfl⟩
            rw [← hym] at HY6
            have HYM := Lib.hid hym
            clear hym
            have q0 := (Lw_cell HY6.out).1
            have q1 := (Lw_cell HY6.out).2
            have r0 := (Lw_cell HQ.out).1
            have r1 := (Lw_cell HQ.out).2
            have xh := x_hi ym x
            have xl := x_lo ym x
            have hlh := Blk.load_row HH6.out (P := Try.prog) (t := 74) Try.underlying74 rfl (by rw [Lw_size]; kernel_rfl)
            go_wp2_with fail
            clear hst q0 q1 r0 r1 xh xl hlh
            generalize w5.alloc (.cells (Lw x) 74) = w6 at *
            generalize w5.heap.size = gt at *
            refine (times_at (ym ^^^ x) H w6).mono ?_
            rintro e' w7 ⟨rfl, hb⟩
            have HY7 := Lib.hid (HY6.out.below hb HY6.out.lt)
            have HH7 := Lib.hid (HH6.out.below hb HH6.out.lt)
            have HP7 := Lib.hid (HP6.out.below hb HP6.out.lt)
            have HT17 := Lib.hid (HT16.out.below hb)
            have HT27 := Lib.hid (HT26.out.below hb)
            have HB7 := Lib.hid (HB6.out.trans (hb.mono (by have := HP6.out.lt; omega)))
            clear hb HY6 HH6 HP6 HT16 HT26 HB6
            obtain ⟨z, hz⟩ : ∃ z, z = gm (ym ^^^ x) H := ⟨_, rfl⟩
            rw [← hz]
            have HZ := Lib.hid hz
            clear hz
            have hsr := Blk.store_row (P := Try.prog) (t := 74) (Lw z) HY7.out (by rw [Lw_size]; kernel_rfl) (by rw [Lw_size, Lw_size]) (Lw_one z)
            have HD1 := Lib.hid (show g + 1 < w7.heap.size from HY7.out.lt)
            have hkp : Keeps (g + 1) w7 (w7.setRow (g + 1) (Lw z)) := ⟨Blk.below_setRow (Below.refl _ _) (Nat.le_refl _) _, fun k _ hk => setRow_other w7 (g + 1) k _ hk⟩
            have HH8 := Lib.hid (hkp.is HH7.out (by omega))
            have HP8 := Lib.hid (hkp.is HP7.out (by omega))
            have HY8 := Lib.hid (HY7.out.setRow (Lw z))
            have HB8 := Lib.hid (HB7.out.trans (hkp.below.mono (by omega)))
            have HT18 : Hid (Txt (w7.setRow (g + 1) (Lw z)) A1 c1 l1) := HT1R.out _ _ HT17.out HB8.out
            have HT28 : Hid (Txt (w7.setRow (g + 1) (Lw z)) A2 c2 l2) := HT2R.out _ _ HT27.out HB8.out
            go_wp2_with fail
            go_roundw
            case rel =>
              refine ⟨a + 16, n + 1, by go_num, by have := HA.out; show a + 16 = 16 * (n + 1); omega, by omega, ?_, HH8, HP8, HT18, HT28, HB8⟩
              show Blk.Is _ _ (Lw (gm (absN H y l n ^^^ blkW (chunk l (16 * n))) H)) _
              rw [← HA.out, ← HX.out, ← HYM.out, ← HZ.out]
              exact HY8.out
            case measure => simp [intOf]; omega
          · have hle := HTL.out.le
            go_wp2_with fail
            refine (read_at a e (l.length - a) HTL.out he hla (by omega)).mono ?_
            rintro e' w5 ⟨rfl, hb⟩
            have HY5 := Lib.hid (HY.out.below hb HY.out.lt)
            have HH5 := Lib.hid (HH.out.below hb HH.out.lt)
            have HP5 := Lib.hid (HP.out.below hb HP.out.lt)
            have HT15 := Lib.hid (HT1.out.below hb)
            have HT25 := Lib.hid (HT2.out.below hb)
            have HB5 := Lib.hid (HB.out.trans (hb.mono (by have := HP.out.lt; omega)))
            clear hb HY HH HP HT1 HT2 HB HTL
            obtain ⟨x, hx⟩ : ∃ x, x = blkW (chunk l a) := ⟨_, rfl⟩
            rw [← hx]
            have HX := Lib.hid hx
            clear hx
            have hst := st74_new w5 x
            have HQ := Lib.hid (Blk.Is.new w5 (Lw x) 74)
            have hgt : Hid (g + 1 + 1 < w5.heap.size) := HP5.out.lt
            have HY6 := Lib.hid (HY5.out.alloc (.cells (Lw x) 74))
            have HH6 := Lib.hid (HH5.out.alloc (.cells (Lw x) 74))
            have HP6 := Lib.hid (HP5.out.alloc (.cells (Lw x) 74))
            have HT16 := Lib.hid (HT15.out.below ((Below.refl _ w5).alloc (Nat.le_refl _) (.cells (Lw x) 74)))
            have HT26 := Lib.hid (HT25.out.below ((Below.refl _ w5).alloc (Nat.le_refl _) (.cells (Lw x) 74)))
            have HB6 := Lib.hid (HB5.out.alloc (by have := hgt.out; omega) (.cells (Lw x) 74))
            clear HY5 HH5 HP5 HT15 HT25 HB5
            obtain ⟨ym, hym⟩ : ∃ ym, ym = absN H y l n := ⟨_, rfl⟩
            rw [← hym] at HY6
            have HYM := Lib.hid hym
            clear hym
            have q0 := (Lw_cell HY6.out).1
            have q1 := (Lw_cell HY6.out).2
            have r0 := (Lw_cell HQ.out).1
            have r1 := (Lw_cell HQ.out).2
            have xh := x_hi ym x
            have xl := x_lo ym x
            have hlh := Blk.load_row HH6.out (P := Try.prog) (t := 74) Try.underlying74 rfl (by rw [Lw_size]; kernel_rfl)
            go_wp2_with fail
            clear hst q0 q1 r0 r1 xh xl hlh
            generalize w5.alloc (.cells (Lw x) 74) = w6 at *
            generalize w5.heap.size = gt at *
            refine (times_at (ym ^^^ x) H w6).mono ?_
            rintro e' w7 ⟨rfl, hb⟩
            have HY7 := Lib.hid (HY6.out.below hb HY6.out.lt)
            have HH7 := Lib.hid (HH6.out.below hb HH6.out.lt)
            have HP7 := Lib.hid (HP6.out.below hb HP6.out.lt)
            have HT17 := Lib.hid (HT16.out.below hb)
            have HT27 := Lib.hid (HT26.out.below hb)
            have HB7 := Lib.hid (HB6.out.trans (hb.mono (by have := HP6.out.lt; omega)))
            clear hb HY6 HH6 HP6 HT16 HT26 HB6
            obtain ⟨z, hz⟩ : ∃ z, z = gm (ym ^^^ x) H := ⟨_, rfl⟩
            rw [← hz]
            have HZ := Lib.hid hz
            clear hz
            have hsr := Blk.store_row (P := Try.prog) (t := 74) (Lw z) HY7.out (by rw [Lw_size]; kernel_rfl) (by rw [Lw_size, Lw_size]) (Lw_one z)
            have HD1 := Lib.hid (show g + 1 < w7.heap.size from HY7.out.lt)
            have hkp : Keeps (g + 1) w7 (w7.setRow (g + 1) (Lw z)) := ⟨Blk.below_setRow (Below.refl _ _) (Nat.le_refl _) _, fun k _ hk => setRow_other w7 (g + 1) k _ hk⟩
            have HH8 := Lib.hid (hkp.is HH7.out (by omega))
            have HP8 := Lib.hid (hkp.is HP7.out (by omega))
            have HY8 := Lib.hid (HY7.out.setRow (Lw z))
            have HB8 := Lib.hid (HB7.out.trans (hkp.below.mono (by omega)))
            have HT18 : Hid (Txt (w7.setRow (g + 1) (Lw z)) A1 c1 l1) := HT1R.out _ _ HT17.out HB8.out
            have HT28 : Hid (Txt (w7.setRow (g + 1) (Lw z)) A2 c2 l2) := HT2R.out _ _ HT27.out HB8.out
            go_wp2_with fail
            go_roundw
            case rel =>
              refine ⟨a + 16, n + 1, by go_num, by have := HA.out; show a + 16 = 16 * (n + 1); omega, by omega, ?_, HH8, HP8, HT18, HT28, HB8⟩
              show Blk.Is _ _ (Lw (gm (absN H y l n ^^^ blkW (chunk l (16 * n))) H)) _
              rw [← HA.out, ← HX.out, ← HYM.out, ← HZ.out]
              exact HY8.out
            case measure => simp [intOf]; omega
        · have hA := HA.out
          have hn : n = (l.length + 15) / 16 := by omega
          go_wp2_with fail
          go_roundw
          case rel =>
            refine ⟨p + 1, by omega, by go_num, ?_, HH, HP, HT1, HT2, HB⟩
            rw [← hyn.out]
            show Blk.Is _ _ (Lw (absN H y l ((l.length + 15) / 16))) _
            rw [← hn]
            exact HY.out
          case measure => simp [intOf]; omega
    · obtain rfl : p = 2 := by omega
      obtain ⟨y, hy⟩ : ∃ y, y = absorb H (absorb H 0#128 l1) l2 := ⟨_, rfl⟩
      have HY2 : Hid (Blk.Is wo (g + 1) (Lw y) 74) := by rw [hy]; exact HY.out
      have HYE := Lib.hid hy
      clear hy HY
      have q0 := (Lw_cell HY2.out).1
      have q1 := (Lw_cell HY2.out).2
      have hw1 := (len64 l1.length HT1.out.few).1
      have hw2 := (len64 l2.length HT2.out.few).1
      have hm1 := (len64 l1.length HT1.out.few).2
      have hm2 := (len64 l2.length HT2.out.few).2
      rw [← hi_len l1.length l2.length] at hm1
      rw [← lo_len l1.length l2.length] at hm2
      obtain ⟨lw, hlw⟩ : ∃ lw, lw = lenW l1.length l2.length := ⟨_, rfl⟩
      rw [← hlw] at hm1 hm2
      have HLW := Lib.hid hlw
      clear hlw
      have xh := x_hi y lw
      have xl := x_lo y lw
      have hlh := Blk.load_row HH.out (P := Try.prog) (t := 74) Try.underlying74 rfl (by rw [Lw_size]; kernel_rfl)
      go_wp2_with fail
      refine (times_at (y ^^^ lw) H wo).mono ?_
      rintro e' w7 ⟨rfl, hb⟩
      clear q0 q1 hw1 hw2 hm1 hm2 xh xl hlh
      have HY7 := Lib.hid (HY2.out.below hb HY2.out.lt)
      have HB7 := Lib.hid (HB.out.trans (hb.mono (by have := HP.out.lt; omega)))
      clear hb
      have hz : gm (y ^^^ lw) H = ghash H l1 l2 := by rw [HYE.out, HLW.out]; rfl
      rw [hz]
      have hsr := Blk.store_row (P := Try.prog) (t := 74) (Lw (ghash H l1 l2)) HY7.out (by rw [Lw_size]; kernel_rfl) (by rw [Lw_size, Lw_size]) (Lw_one _)
      have HR7 := Lib.hid (HY7.out.setRow (Lw (ghash H l1 l2)))
      have HB8 := Lib.hid (Blk.below_setRow HB7.out (show g ≤ g + 1 by omega) (Lw (ghash H l1 l2)))
      go_wp2_with fail
      refine bodyPost_ret (results_cell_row rfl _ _ (g + 1) 74 (Lw (ghash H l1 l2)) (0, 0) _ rfl HR7.out Try.underlying74 rfl (by rw [Lw_size]; kernel_rfl)) rfl ?_
      exact ⟨rfl, by rw [HG.out]; exact HB8.out⟩
end Go.Proofs.Ytbebmbcjddibaaa.Gcm
