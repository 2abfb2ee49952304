/- What is said here: the program's hash, key stream, turn, tag and Seal. -/
import Derived.Test.YtbebmbcjddibaaaGf
import Derived.Test.YtbebmbcjddibaaaGcmR
import Derived.Test.YtbebmbcjddibaaaRow
/- What is said here: the program's hash of two texts is the field's. -/
namespace Go.Proofs.Ytbebmbcjddibaaa.Gcm
set_option linter.unusedVariables false
set_option linter.unusedSimpArgs false
open Go.RowKit Go.Proofs.YtbebmbcjddibaaaW.PrintWords Go.Proofs.YtbebmbcjddibaaaW.PrintLast Go.Proofs.YtbebmbcjddibaaaW.PrintMore Go.Proofs.Ytbebmbcjddibaaa.PG Gf Gfi Poly AesF Aes Lng
theorem ld74 (x : Value) : Instr.loadAt 74 x = Blk.ld 74 x := rfl
theorem st74 (x v : Value) : Instr.storeAt 74 x v = Blk.st 74 x v := rfl
attribute [local go_sem ↓] ld74 st74
attribute [local go_sem] max2_int min2_int max_two min_two
/-- A long element's two cells. -/
def Lw (x : W) : Array Value := #[.int .u64 (o64 (hi x)), .int .u64 (o64 (lo x))]
theorem Lw_zero : (#[.int .u64 0, .int .u64 0] : Array Value) = Lw 0#128 := rfl
theorem Lw_size (x : W) : (Lw x).size = 2 := rfl
theorem Lw_one (x : W) : (Lw x).all (·.oneCell') = true := by simp [Lw, Value.oneCell']
theorem hi_xor (a b : W) : hi (a ^^^ b) = hi a ^^^ hi b := by
  apply BitVec.eq_of_getLsbD_eq
  intro j hj
  rw [hi_bit _ j hj, BitVec.getLsbD_xor, BitVec.getLsbD_xor, hi_bit _ j hj, hi_bit _ j hj]
theorem lo_xor (a b : W) : lo (a ^^^ b) = lo a ^^^ lo b := by
  apply BitVec.eq_of_getLsbD_eq
  intro j hj
  rw [lo_bit _ j hj, BitVec.getLsbD_xor, BitVec.getLsbD_xor, lo_bit _ j hj, lo_bit _ j hj]
theorem x_hi (a b : W) : Go.bits .xor .u64 (o64 (hi a)) (o64 (hi b)) = o64 (hi (a ^^^ b)) := by rw [(bits64 _ _).1, hi_xor]
theorem x_lo (a b : W) : Go.bits .xor .u64 (o64 (lo a)) (o64 (lo b)) = o64 (lo (a ^^^ b)) := by rw [(bits64 _ _).1, lo_xor]
/-- Eight times the two lengths. -/
def lenW (m n : Nat) : W := (BitVec.ofNat 64 (8 * m) ++ BitVec.ofNat 64 (8 * n) : BitVec (64 + 64))
theorem hi_len (m n : Nat) : hi (lenW m n) = BitVec.ofNat 64 (8 * m) := by
  apply BitVec.eq_of_getLsbD_eq
  intro j hj
  rw [hi_bit _ j hj]
  unfold lenW
  rw [BitVec.getLsbD_append, if_neg (by omega), Nat.add_sub_cancel_left]
theorem lo_len (m n : Nat) : lo (lenW m n) = BitVec.ofNat 64 (8 * n) := by
  apply BitVec.eq_of_getLsbD_eq
  intro j hj
  rw [lo_bit _ j hj]
  unfold lenW
  rw [BitVec.getLsbD_append, if_pos hj]
/-- Sixteen bytes of a text. -/
def chunk (l : List Int) (a : Nat) : Nat → B := fun i => toB (l.getD (a + i) 0)
def absN (H y : W) (l : List Int) : Nat → W
  | 0 => y
  | n + 1 => gm (absN H y l n ^^^ blkW (chunk l (16 * n))) H
def absorb (H y : W) (l : List Int) : W := absN H y l ((l.length + 15) / 16)
def yp (H : W) (l m : List Int) : Nat → W
  | 0 => 0#128
  | 1 => absorb H 0#128 l
  | _ => absorb H (absorb H 0#128 l) m
def ghash (H : W) (l m : List Int) : W := gm (absorb H (absorb H 0#128 l) m ^^^ lenW l.length m.length) H
theorem st74_new (w : World) (x : W) : (Blk.st 74 (.pointer (some ⟨w.heap.size, 0, none⟩)) (.agg (Lw x))).run Try.prog (w.alloc (.cells #[.int .u64 0, .int .u64 0] 74)) = .ok () (w.alloc (.cells (Lw x) 74)) :=
  run_storeAt_new w 74 _ _ (by rw [Lw_size]; kernel_rfl) (by rw [Lw_size]; rfl) (Lw_one x)
theorem Lw_cell {W0 : World} {b : Nat} {x : W} {T : TypeId} (h : Blk.Is W0 b (Lw x) T) : W0.cell? ⟨b, 0, none⟩ = some (.int .u64 (o64 (hi x))) ∧ W0.cell? ⟨b, 1, none⟩ = some (.int .u64 (o64 (lo x))) := by
  rw [h.cell, h.cell]
  exact ⟨rfl, rfl⟩
/-- A text in memory: bytes, and not too many. -/
structure Txt (w : World) (A : Option Addr) (c : Nat) (l : List Int) : Prop where
  row : Kd.C (Kd.int .u8) w A l.length l
  le : l.length ≤ c
  by_ : ∀ x ∈ l, 0 ≤ x ∧ x < 256
  few : l.length < 1000000
theorem Txt.below {w w' : World} {A : Option Addr} {c : Nat} {l : List Int} (h : Txt w A c l) (hb : Below w.heap.size w w') : Txt w' A c l := ⟨Kd.C_below h.row hb, h.le, h.by_, h.few⟩
theorem chunk_at (l : List Int) (hl : ∀ x ∈ l, 0 ≤ x ∧ x < 256) (a e : Nat) (he : e = min (a + 16) l.length) (i : Nat) (hi_ : i < 16) : (((l.take e).drop a).getD i 0) = ofB (chunk l a i) := by
  have hr : ∀ x, x ∈ l ∨ x = 0 → ofB (toB x) = x := fun x h => by
    rcases h with h | rfl
    · exact ofB_toB (hl x h).1 (hl x h).2
    · rfl
  have hg : l.getD (a + i) 0 ∈ l ∨ l.getD (a + i) 0 = 0 := by
    rw [List.getD_eq_getElem?_getD]
    by_cases h : a + i < l.length
    · rw [List.getElem?_eq_getElem h]; exact Or.inl (List.getElem_mem h)
    · rw [List.getElem?_eq_none (by omega)]; exact Or.inr rfl
  unfold chunk
  rw [hr _ hg, List.getD_eq_getElem?_getD, List.getD_eq_getElem?_getD, List.getElem?_drop, List.getElem?_take]
  by_cases h : a + i < e
  · rw [if_pos h]
  · rw [if_neg h, List.getElem?_eq_none (by omega)]
theorem read_at {W0 : World} {A : Option Addr} {c : Nat} {l : List Int} (a e k : Nat) (hT : Txt W0 A c l) (he : e = min (a + 16) l.length) (ha : a < l.length) (hk : k = e - a) :
    Calls Try.prog 37 #[.slice (A.map (·.add a)) k (c - a)] W0 fun e' w' => e' = .returned (.agg (Lw (blkW (chunk l a)))) ∧ Below W0.heap.size W0 w' := by
  have hle := hT.le
  have hr := Kd.reads_of_C (d := (0 : Int)) hT.row
  have h1 := hr.take_ e (by omega)
  have h2 := ReadsOf.drop_ h1 (c := c) a (by omega) (by omega)
  rw [if_neg (by omega)] at h2
  have hlen : ((l.take e).drop a).length = k := by rw [List.length_drop, List.length_take]; omega
  have hC : Kd.C (Kd.int .u8) W0 (A.map (·.add a)) ((l.take e).drop a).length ((l.take e).drop a) := by
    rw [hlen, hk]
    exact Kd.C_of_reads (d := (0 : Int)) (h1 := fun _ => rfl) h2
  have h := gcm_read.calls 40 (A.map (·.add a)) (c - a) ((l.take e).drop a) _ _ W0 hC (by rw [hlen]; omega) (read_f _ (chunk l a) (fun i hi => chunk_at l hT.by_ a e he i hi))
  rw [hlen] at h
  exact h
theorem times_at (X Y : W) (W0 : World) : Calls Try.prog 48 #[.agg #[.int .u64 (o64 (hi X)), .int .u64 (o64 (lo X))], .agg (Lw Y)] W0 fun e w' => e = .returned (.agg (Lw (gm X Y))) ∧ Below W0.heap.size W0 w' :=
  gcm_long_times.calls 200 _ _ _ _ _ _ W0 (times_f X Y)
theorem len64 (m : Nat) (h : m < 1000000) : IntKind.u64.wrap (m : Int) = (m : Int) ∧ IntKind.u64.wrap (8 * (m : Int)) = o64 (BitVec.ofNat 64 (8 * m)) := by
  refine ⟨by rw [w64]; omega, ?_⟩
  unfold o64
  rw [w64, BitVec.toNat_ofNat]
  show _ = ((8 * m % 18446744073709551616 : Nat) : Int)
  omega
set_option maxRecDepth 100000 in
set_option maxHeartbeats 4000000 in
theorem hash_calls (H : W) (A1 A2 : Option Addr) (c1 c2 : Nat) (l1 l2 : List Int) (w : World) (h1 : Txt w A1 c1 l1) (h2 : Txt w A2 c2 l2) :
    Calls Try.prog 36 #[.agg (Lw H), .slice A1 l1.length c1, .slice A2 l2.length c2] w fun e w' => e = .returned (.agg (Lw (ghash H l1 l2))) ∧ Below w.heap.size w w' := by
  have e1 : (w.alloc (.cells (Lw H) 74)).heap.size = w.heap.size + 1 := by simp
  have e2 : ((w.alloc (.cells (Lw H) 74)).alloc (.cells (Lw 0#128) 74)).heap.size = w.heap.size + 1 + 1 := by simp
  have HH0 := Lib.hid (((Blk.Is.new w (Lw H) 74).alloc (.cells (Lw 0#128) 74)).alloc (.cells #[.slice A1 l1.length c1, .slice A2 l2.length c2] 24))
  have HY0 := Lib.hid ((Blk.Is.new (w.alloc (.cells (Lw H) 74)) (Lw 0#128) 74).alloc (.cells #[.slice A1 l1.length c1, .slice A2 l2.length c2] 24))
  have HP0 := Lib.hid (Blk.Is.new ((w.alloc (.cells (Lw H) 74)).alloc (.cells (Lw 0#128) 74)) #[.slice A1 l1.length c1, .slice A2 l2.length c2] 24)
  rw [e1] at HY0
  rw [e2] at HP0
  have HB0 := Lib.hid ((((Below.refl _ w).alloc (Nat.le_refl _) (.cells (Lw H) 74)).alloc (by omega) (.cells (Lw 0#128) 74)).alloc (by omega) (.cells #[.slice A1 l1.length c1, .slice A2 l2.length c2] 24))
  have HT1 := Lib.hid (h1.below HB0.out)
  have HT2 := Lib.hid (h2.below HB0.out)
  have HT1R : Hid (∀ v v' : World, Txt v A1 c1 l1 → Below w.heap.size w v' → Txt v' A1 c1 l1) := fun v v' _ hb => h1.below hb
  have HT2R : Hid (∀ v v' : World, Txt v A2 c2 l2 → Below w.heap.size w v' → Txt v' A2 c2 l2) := fun v v' _ hb => h2.below hb
  clear h1 h2 e1 e2
  go_enter Try.func36, Try.ntmps36
  go_wp2_with fail
  rw [Lw_zero]
  generalize ((w.alloc (.cells (Lw H) 74)).alloc (.cells (Lw 0#128) 74)).alloc (.cells #[.slice A1 l1.length c1, .slice A2 l2.length c2] 24) = w0 at *
  generalize hg : w.heap.size = g at *
  have HG := Lib.hid hg
  clear hg
  go_loopw [8, 9, 10, 15, 16, 17, 18, 19, 20, 21, 22, 23, 24, 25, 26, 27, 28, 29, 30, 31, 32, 33, 34, 35, 36, 37, 38, 39, 40, 41, 42, 43, 44, 45, 46, 47] (fun v8 v9 v10 v15 v16 v17 v18 v19 v20 v21 v22 v23 v24 v25 v26 v27 v28 v29 v30 v31 v32 v33 v34 v35 v36 v37 v38 v39 v40 v41 v42 v43 v44 v45 v46 v47 wr => ∃ (p : Nat), p ≤ 2 ∧ v15 = .int .i64 (p : Int) ∧ Hid (Blk.Is wr (g + 1) (Lw (yp H l1 l2 p)) 74) ∧ Hid (Blk.Is wr g (Lw H) 74) ∧ Hid (Blk.Is wr (g + 1 + 1) #[.slice A1 l1.length c1, .slice A2 l2.length c2] 24) ∧ Hid (Txt wr A1 c1 l1) ∧ Hid (Txt wr A2 c2 l2) ∧ Hid (Below g w wr)) (fun _ _ _ v15 _ _ _ _ _ _ _ _ _ _ _ _ _ _ _ _ _ _ _ _ _ _ _ _ _ _ _ _ _ _ _ _ _ => 2 - (intOf v15).toNat)
  case atStart => exact ⟨0, by omega, rfl, HY0, HH0, HP0, HT1, HT2, HB0⟩
  case round =>
    clear HY0 HH0 HP0 HT1 HT2 HB0
    obtain ⟨p, hp, rfl, HY, HH, HP, HT1, HT2, HB⟩ := hrel
    obtain ⟨wo, rfl⟩ : ∃ wo, wo = wr := ⟨_, rfl⟩
    by_cases hlt : p < 2
    · obtain ⟨A, l, c, hcell, hT, hyn⟩ : ∃ A l c, wo.cell? ⟨g + 1 + 1, p, none⟩ = some (.slice A l.length c) ∧ Hid (∀ W, Txt W A1 c1 l1 → Txt W A2 c2 l2 → Txt W A c l) ∧ Hid (absorb H (yp H l1 l2 p) l = yp H l1 l2 (p + 1)) := by
        have hp2 : p = 0 ∨ p = 1 := by omega
        rcases hp2 with rfl | rfl
        · exact ⟨A1, l1, c1, by rw [HP.out.cell]; rfl, fun W h _ => h, rfl⟩
        · exact ⟨A2, l2, c2, by rw [HP.out.cell]; rfl, fun W _ h => h, rfl⟩
      generalize yp H l1 l2 p = y at *
      go_wp2_with fail
      clear hcell
      generalize decide ((p : Int) < 2) = dp at *
      go_loopw [9, 10, 19, 20, 21, 22, 23, 24, 25, 26, 27, 28, 29, 30, 31, 32, 33, 34, 35, 36, 37, 38, 39, 40, 41, 42, 43, 44, 45, 46] (fun v9 v10 v19 v20 v21 v22 v23 v24 v25 v26 v27 v28 v29 v30 v31 v32 v33 v34 v35 v36 v37 v38 v39 v40 v41 v42 v43 v44 v45 v46 wl => ∃ (a n : Nat), v9 = .int .i64 (a : Int) ∧ Hid (a = 16 * n) ∧ a < l.length + 16 ∧ Hid (Blk.Is wl (g + 1) (Lw (absN H y l n)) 74) ∧ Hid (Blk.Is wl g (Lw H) 74) ∧ Hid (Blk.Is wl (g + 1 + 1) #[.slice A1 l1.length c1, .slice A2 l2.length c2] 24) ∧ Hid (Txt wl A1 c1 l1) ∧ Hid (Txt wl A2 c2 l2) ∧ Hid (Below g w wl)) (fun v9 _ _ _ _ _ _ _ _ _ _ _ _ _ _ _ _ _ _ _ _ _ _ _ _ _ _ _ _ _ _ => (l.length + 16) - (intOf v9).toNat)
      case atStart => exact ⟨0, 0, rfl, rfl, by omega, HY, HH, HP, HT1, HT2, HB⟩
      case round =>
        clear HY HH HP HT1 HT2 HB
        obtain ⟨a, n, rfl, HA, ha, HY, HH, HP, HT1, HT2, HB⟩ := hrel
        have HTL := Lib.hid (hT.out _ HT1.out HT2.out)
        have hfew := HTL.out.few
        by_cases hla : a < l.length
        · obtain ⟨e, he⟩ : ∃ e : Nat, e = min (a + 16) l.length := ⟨_, rfl⟩
          by_cases h16 : a + 16 ≤ l.length
          · have hle := HTL.out.le
            go_wp2_with fail
            refine (read_at a e 16 HTL.out he hla (by omega)).mono ?_
            rintro e' w5 ⟨rfl, hb⟩
            have HY5 := Lib.hid (HY.out.below hb HY.out.lt)
            have HH5 := Lib.hid (HH.out.below hb HH.out.lt)
            have HP5 := Lib.hid (HP.out.below hb HP.out.lt)
            have HT15 := Lib.hid (HT1.out.below hb)
            have HT25 := Lib.hid (HT2.out.below hb)
            have HB5 := Lib.hid (HB.out.trans (hb.mono (by have := HP.out.lt; omega)))
            clear hb HY HH HP HT1 HT2 HB HTL
            obtain ⟨x, hx⟩ : ∃ x, x = blkW (chunk l a) := ⟨_, rfl⟩
            rw [← hx]
            have HX := Lib.hid hx
            clear hx
            have hst := st74_new w5 x
            have HQ := Lib.hid (Blk.Is.new w5 (Lw x) 74)
            have hgt : Hid (g + 1 + 1 < w5.heap.size) := HP5.out.lt
            have HY6 := Lib.hid (HY5.out.alloc (.cells (Lw x) 74))
            have HH6 := Lib.hid (HH5.out.alloc (.cells (Lw x) 74))
            have HP6 := Lib.hid (HP5.out.alloc (.cells (Lw x) 74))
            have HT16 := Lib.hid (HT15.out.below ((Below.refl _ w5).alloc (Nat.le_refl _) (.cells (Lw x) 74)))
            have HT26 := Lib.hid (HT25.out.below ((Below.refl _ w5).alloc (Nat.le_refl _) (.cells (Lw x) 74)))
            have HB6 := Lib.hid (HB5.out.alloc (by have := hgt.out; omega) (.cells (Lw x) 74))
            clear HY5 HH5 HP5 HT15 HT25 HB5
            obtain ⟨ym, hym⟩ : ∃ ym, ym = absN H y l n := ⟨_, rfl⟩
            rw [← hym] at HY6
            have HYM := Lib.hid hym
            clear hym
            have q0 := (Lw_cell HY6.out).1
            have q1 := (Lw_cell HY6.out).2
            have r0 := (Lw_cell HQ.out).1
            have r1 := (Lw_cell HQ.out).2
            have xh := x_hi ym x
            have xl := x_lo ym x
            have hlh := Blk.load_row HH6.out (P := Try.prog) (t := 74) Try.underlying74 rfl (by rw [Lw_size]; kernel_rfl)
            go_wp2_with fail
            clear hst q0 q1 r0 r1 xh xl hlh
            generalize w5.alloc (.cells (Lw x) 74) = w6 at *
            generalize w5.heap.size = gt at *
            refine (times_at (ym ^^^ x) H w6).mono ?_
            rintro e' w7 ⟨rfl, hb⟩
            have HY7 := Lib.hid (HY6.out.below hb HY6.out.lt)
            have HH7 := Lib.hid (HH6.out.below hb HH6.out.lt)
            have HP7 := Lib.hid (HP6.out.below hb HP6.out.lt)
            have HT17 := Lib.hid (HT16.out.below hb)
            have HT27 := Lib.hid (HT26.out.below hb)
            have HB7 := Lib.hid (HB6.out.trans (hb.mono (by have := HP6.out.lt; omega)))
            clear hb HY6 HH6 HP6 HT16 HT26 HB6
            obtain ⟨z, hz⟩ : ∃ z, z = gm (ym ^^^ x) H := ⟨_, rfl⟩
            rw [← hz]
            have HZ := Lib.hid hz
            clear hz
            have hsr := Blk.store_row (P := Try.prog) (t := 74) (Lw z) HY7.out (by rw [Lw_size]; kernel_rfl) (by rw [Lw_size, Lw_size]) (Lw_one z)
            have HD1 := Lib.hid (show g + 1 < w7.heap.size from HY7.out.lt)
            have hkp : Keeps (g + 1) w7 (w7.setRow (g + 1) (Lw z)) := ⟨Blk.below_setRow (Below.refl _ _) (Nat.le_refl _) _, fun k _ hk => setRow_other w7 (g + 1) k _ hk⟩
            have HH8 := Lib.hid (hkp.is HH7.out (by omega))
            have HP8 := Lib.hid (hkp.is HP7.out (by omega))
            have HY8 := Lib.hid (HY7.out.setRow (Lw z))
            have HB8 := Lib.hid (HB7.out.trans (hkp.below.mono (by omega)))
            have HT18 : Hid (Txt (w7.setRow (g + 1) (Lw z)) A1 c1 l1) := HT1R.out _ _ HT17.out HB8.out
            have HT28 : Hid (Txt (w7.setRow (g + 1) (Lw z)) A2 c2 l2) := HT2R.out _ _ HT27.out HB8.out
            go_wp2_with fail
            go_roundw
            case rel =>
              refine ⟨a + 16, n + 1, by go_num, by have := HA.out; show a + 16 = 16 * (n + 1); omega, by omega, ?_, HH8, HP8, HT18, HT28, HB8⟩
              show Blk.Is _ _ (Lw (gm (absN H y l n ^^^ blkW (chunk l (16 * n))) H)) _
              rw [← HA.out, ← HX.out, ← HYM.out, ← HZ.out]
              exact HY8.out
            case measure => simp [intOf]; omega
          · have hle := HTL.out.le
            go_wp2_with fail
            refine (read_at a e (l.length - a) HTL.out he hla (by omega)).mono ?_
            rintro e' w5 ⟨rfl, hb⟩
            have HY5 := Lib.hid (HY.out.below hb HY.out.lt)
            have HH5 := Lib.hid (HH.out.below hb HH.out.lt)
            have HP5 := Lib.hid (HP.out.below hb HP.out.lt)
            have HT15 := Lib.hid (HT1.out.below hb)
            have HT25 := Lib.hid (HT2.out.below hb)
            have HB5 := Lib.hid (HB.out.trans (hb.mono (by have := HP.out.lt; omega)))
            clear hb HY HH HP HT1 HT2 HB HTL
            obtain ⟨x, hx⟩ : ∃ x, x = blkW (chunk l a) := ⟨_, rfl⟩
            rw [← hx]
            have HX := Lib.hid hx
            clear hx
            have hst := st74_new w5 x
            have HQ := Lib.hid (Blk.Is.new w5 (Lw x) 74)
            have hgt : Hid (g + 1 + 1 < w5.heap.size) := HP5.out.lt
            have HY6 := Lib.hid (HY5.out.alloc (.cells (Lw x) 74))
            have HH6 := Lib.hid (HH5.out.alloc (.cells (Lw x) 74))
            have HP6 := Lib.hid (HP5.out.alloc (.cells (Lw x) 74))
            have HT16 := Lib.hid (HT15.out.below ((Below.refl _ w5).alloc (Nat.le_refl _) (.cells (Lw x) 74)))
            have HT26 := Lib.hid (HT25.out.below ((Below.refl _ w5).alloc (Nat.le_refl _) (.cells (Lw x) 74)))
            have HB6 := Lib.hid (HB5.out.alloc (by have := hgt.out; omega) (.cells (Lw x) 74))
            clear HY5 HH5 HP5 HT15 HT25 HB5
            obtain ⟨ym, hym⟩ : ∃ ym, ym = absN H y l n := ⟨_, rfl⟩
            rw [← hym] at HY6
            have HYM := Lib.hid hym
            clear hym
            have q0 := (Lw_cell HY6.out).1
            have q1 := (Lw_cell HY6.out).2
            have r0 := (Lw_cell HQ.out).1
            have r1 := (Lw_cell HQ.out).2
            have xh := x_hi ym x
            have xl := x_lo ym x
            have hlh := Blk.load_row HH6.out (P := Try.prog) (t := 74) Try.underlying74 rfl (by rw [Lw_size]; kernel_rfl)
            go_wp2_with fail
            clear hst q0 q1 r0 r1 xh xl hlh
            generalize w5.alloc (.cells (Lw x) 74) = w6 at *
            generalize w5.heap.size = gt at *
            refine (times_at (ym ^^^ x) H w6).mono ?_
            rintro e' w7 ⟨rfl, hb⟩
            have HY7 := Lib.hid (HY6.out.below hb HY6.out.lt)
            have HH7 := Lib.hid (HH6.out.below hb HH6.out.lt)
            have HP7 := Lib.hid (HP6.out.below hb HP6.out.lt)
            have HT17 := Lib.hid (HT16.out.below hb)
            have HT27 := Lib.hid (HT26.out.below hb)
            have HB7 := Lib.hid (HB6.out.trans (hb.mono (by have := HP6.out.lt; omega)))
            clear hb HY6 HH6 HP6 HT16 HT26 HB6
            obtain ⟨z, hz⟩ : ∃ z, z = gm (ym ^^^ x) H := ⟨_, rfl⟩
            rw [← hz]
            have HZ := Lib.hid hz
            clear hz
            have hsr := Blk.store_row (P := Try.prog) (t := 74) (Lw z) HY7.out (by rw [Lw_size]; kernel_rfl) (by rw [Lw_size, Lw_size]) (Lw_one z)
            have HD1 := Lib.hid (show g + 1 < w7.heap.size from HY7.out.lt)
            have hkp : Keeps (g + 1) w7 (w7.setRow (g + 1) (Lw z)) := ⟨Blk.below_setRow (Below.refl _ _) (Nat.le_refl _) _, fun k _ hk => setRow_other w7 (g + 1) k _ hk⟩
            have HH8 := Lib.hid (hkp.is HH7.out (by omega))
            have HP8 := Lib.hid (hkp.is HP7.out (by omega))
            have HY8 := Lib.hid (HY7.out.setRow (Lw z))
            have HB8 := Lib.hid (HB7.out.trans (hkp.below.mono (by omega)))
            have HT18 : Hid (Txt (w7.setRow (g + 1) (Lw z)) A1 c1 l1) := HT1R.out _ _ HT17.out HB8.out
            have HT28 : Hid (Txt (w7.setRow (g + 1) (Lw z)) A2 c2 l2) := HT2R.out _ _ HT27.out HB8.out
            go_wp2_with fail
            go_roundw
            case rel =>
              refine ⟨a + 16, n + 1, by go_num, by have := HA.out; show a + 16 = 16 * (n + 1); omega, by omega, ?_, HH8, HP8, HT18, HT28, HB8⟩
              show Blk.Is _ _ (Lw (gm (absN H y l n ^^^ blkW (chunk l (16 * n))) H)) _
              rw [← HA.out, ← HX.out, ← HYM.out, ← HZ.out]
              exact HY8.out
            case measure => simp [intOf]; omega
        · have hA := HA.out
          have hn : n = (l.length + 15) / 16 := by omega
          go_wp2_with fail
          go_roundw
          case rel =>
            refine ⟨p + 1, by omega, by go_num, ?_, HH, HP, HT1, HT2, HB⟩
            rw [← hyn.out]
            show Blk.Is _ _ (Lw (absN H y l ((l.length + 15) / 16))) _
            rw [← hn]
            exact HY.out
          case measure => simp [intOf]; omega
    · obtain rfl : p = 2 := by omega
      obtain ⟨y, hy⟩ : ∃ y, y = absorb H (absorb H 0#128 l1) l2 := ⟨_, rfl⟩
      have HY2 : Hid (Blk.Is wo (g + 1) (Lw y) 74) := by rw [hy]; exact HY.out
      have HYE := Lib.hid hy
      clear hy HY
      have q0 := (Lw_cell HY2.out).1
      have q1 := (Lw_cell HY2.out).2
      have hw1 := (len64 l1.length HT1.out.few).1
      have hw2 := (len64 l2.length HT2.out.few).1
      have hm1 := (len64 l1.length HT1.out.few).2
      have hm2 := (len64 l2.length HT2.out.few).2
      rw [← hi_len l1.length l2.length] at hm1
      rw [← lo_len l1.length l2.length] at hm2
      obtain ⟨lw, hlw⟩ : ∃ lw, lw = lenW l1.length l2.length := ⟨_, rfl⟩
      rw [← hlw] at hm1 hm2
      have HLW := Lib.hid hlw
      clear hlw
      have xh := x_hi y lw
      have xl := x_lo y lw
      have hlh := Blk.load_row HH.out (P := Try.prog) (t := 74) Try.underlying74 rfl (by rw [Lw_size]; kernel_rfl)
      go_wp2_with fail
      refine (times_at (y ^^^ lw) H wo).mono ?_
      rintro e' w7 ⟨rfl, hb⟩
      clear q0 q1 hw1 hw2 hm1 hm2 xh xl hlh
      have HY7 := Lib.hid (HY2.out.below hb HY2.out.lt)
      have HB7 := Lib.hid (HB.out.trans (hb.mono (by have := HP.out.lt; omega)))
      clear hb
      have hz : gm (y ^^^ lw) H = ghash H l1 l2 := by rw [HYE.out, HLW.out]; rfl
      rw [hz]
      have hsr := Blk.store_row (P := Try.prog) (t := 74) (Lw (ghash H l1 l2)) HY7.out (by rw [Lw_size]; kernel_rfl) (by rw [Lw_size, Lw_size]) (Lw_one _)
      have HR7 := Lib.hid (HY7.out.setRow (Lw (ghash H l1 l2)))
      have HB8 := Lib.hid (Blk.below_setRow HB7.out (show g ≤ g + 1 by omega) (Lw (ghash H l1 l2)))
      go_wp2_with fail
      refine bodyPost_ret (results_cell_row rfl _ _ (g + 1) 74 (Lw (ghash H l1 l2)) (0, 0) _ rfl HR7.out Try.underlying74 rfl (by rw [Lw_size]; kernel_rfl)) rfl ?_
      exact ⟨rfl, by rw [HG.out]; exact HB8.out⟩
end Go.Proofs.Ytbebmbcjddibaaa.Gcm
/- What is said here: the program's key stream: what each call of it tells. -/
namespace Go.Proofs.Ytbebmbcjddibaaa.Gcm
set_option linter.unusedVariables false
set_option linter.unusedSimpArgs false
open Go.RowKit Go.Proofs.YtbebmbcjddibaaaW.PrintWords Go.Proofs.YtbebmbcjddibaaaW.PrintLast Go.Proofs.YtbebmbcjddibaaaW.PrintMore Go.Proofs.Ytbebmbcjddibaaa.PG Gf Gfi Poly AesF Aes Lng
theorem ld53 (x : Value) : Instr.loadAt 53 x = Blk.ld 53 x := rfl
theorem st53 (x v : Value) : Instr.storeAt 53 x v = Blk.st 53 x v := rfl
attribute [local go_sem ↓] ld53 st53 ld23 st23
/-- The counter block i. -/
def ctr (nonce : Nat → B) (i : Nat) : Nat → B := fun q => if q < 12 then nonce q else BitVec.ofNat 8 (i / 2 ^ (8 * (15 - q)))
/-- A key stream in memory: n calls are behind it. -/
structure Str (w : World) (gn gc gk : Nat) (K nonce : Nat → B) (n : Nat) : Prop where
  num : Blk.Is w gn #[.int .u32 (n : Int)] 70
  blk : ∃ cc : Nat → B, Blk.Is w gc (cB 16 cc) 37 ∧ ∀ q, q < 12 → cc q = nonce q
  key : Blk.Is w gk (cB 752 K) 53
  ne : gn ≠ gc ∧ gn ≠ gk ∧ gc ≠ gk
/-- Of what was there, two blocks alone have turned. -/
structure Two (a b : Nat) (w w' : World) : Prop where
  below : ∀ base, base ≤ a → base ≤ b → base ≤ w.heap.size → Below base w w'
  rest : ∀ k, k < w.heap.size → k ≠ a → k ≠ b → w'.heap[k]? = w.heap[k]?
variable {a b : Nat} {w w' : World}
theorem Two.refl (a b : Nat) (w : World) : Two a b w w := ⟨fun base _ _ _ => Below.refl base w, fun _ _ _ _ => rfl⟩
theorem Two.size (h : Two a b w w') : w.heap.size ≤ w'.heap.size := (h.below 0 (Nat.zero_le _) (Nat.zero_le _) (Nat.zero_le _)).size
theorem Two.drew (h : Two a b w w') : Two a b w w'.drew := ⟨fun base h1 h2 h3 => (h.below base h1 h2 h3).drew, h.rest⟩
theorem Two.alloc (h : Two a b w w') (o : Obj) : Two a b w (w'.alloc o) :=
  ⟨fun base h1 h2 h3 => (h.below base h1 h2 h3).alloc (Nat.le_trans h3 h.size) o, fun k hk h1 h2 => (Below.heap_alloc _ _ _ (Nat.lt_of_lt_of_le hk h.size)).trans (h.rest k hk h1 h2)⟩
theorem Two.set (h : Two a b w w') (hs : a < w.heap.size ∧ b < w.heap.size) {p : Addr} (hp : p.block = a ∨ p.block = b) (u : Value) : Two a b w (w'.setCell p u) :=
  ⟨fun base h1 h2 h3 => (h.below base h1 h2 h3).setCell (by rcases hp with e | e <;> rw [e] <;> assumption) u, fun k hk h1 h2 => (Below.heap_setCell _ _ _ _ (by rcases hp with e | e <;> rw [e] <;> assumption)).trans (h.rest k hk h1 h2)⟩
theorem Two.below_ {w2 : World} (h : Two a b w w') (hb : Below w'.heap.size w' w2) : Two a b w w2 :=
  ⟨fun base h1 h2 h3 => (h.below base h1 h2 h3).trans (hb.mono (Nat.le_trans h3 h.size)), fun k hk h1 h2 => (hb.block k (Nat.lt_of_lt_of_le hk h.size)).trans (h.rest k hk h1 h2)⟩
theorem Two.row (h : Two a b w w') {k : Nat} (hk : w.heap.size ≤ k) (cs : Array Value) : Two a b w (w'.setRow k cs) :=
  ⟨fun base h1 h2 h3 => Blk.below_setRow (h.below base h1 h2 h3) (Nat.le_trans h3 hk) cs, fun j hj h1 h2 => (setRow_other w' k j cs (by omega)).trans (h.rest j hj h1 h2)⟩
theorem Two.trans {w2 : World} (h : Two a b w w') (h2 : Two a b w' w2) : Two a b w w2 :=
  ⟨fun base h1 h3 h4 => (h.below base h1 h3 h4).trans (h2.below base h1 h3 (Nat.le_trans h4 h.size)), fun k hk h1 h3 => (h2.rest k (Nat.lt_of_lt_of_le hk h.size) h1 h3).trans (h.rest k hk h1 h3)⟩
theorem Two.under {w2 : World} {k : Nat} (h : Two a b w w') (hb : Below k w' w2) (hk : w.heap.size ≤ k) : Two a b w w2 :=
  ⟨fun base h1 h2 h3 => (h.below base h1 h2 h3).trans (hb.mono (Nat.le_trans h3 hk)), fun j hj h1 h2 => (hb.block j (Nat.lt_of_lt_of_le hj hk)).trans (h.rest j hj h1 h2)⟩
theorem Two.is (h : Two a b w w') {k : Nat} {cs : Array Value} {T : TypeId} (hi : Blk.Is w k cs T) (h1 : k ≠ a) (h2 : k ≠ b) : Blk.Is w' k cs T := (h.rest k hi.lt h1 h2).trans hi
theorem Str.under {gn gc gk n k : Nat} {K nonce : Nat → B} (h : Str w gn gc gk K nonce n) (hb : Below k w w') (h1 : gn < k) (h2 : gc < k) (h3 : gk < k) : Str w' gn gc gk K nonce n :=
  ⟨h.num.below hb h1, by obtain ⟨cc, h4, h5⟩ := h.blk; exact ⟨cc, h4.below hb h2, h5⟩, h.key.below hb h3, h.ne⟩
theorem Str.alloc {gn gc gk n : Nat} {K nonce : Nat → B} (h : Str w gn gc gk K nonce n) (o : Obj) : Str (w.alloc o) gn gc gk K nonce n :=
  ⟨h.num.alloc o, by obtain ⟨cc, h1, h2⟩ := h.blk; exact ⟨cc, h1.alloc o, h2⟩, h.key.alloc o, h.ne⟩
theorem Str.below {gn gc gk n : Nat} {K nonce : Nat → B} (h : Str w gn gc gk K nonce n) (hb : Below w.heap.size w w') : Str w' gn gc gk K nonce n :=
  ⟨h.num.below hb h.num.lt, by obtain ⟨cc, h1, h2⟩ := h.blk; exact ⟨cc, h1.below hb h1.lt, h2⟩, h.key.below hb h.key.lt, h.ne⟩
theorem Str.keeps {gn gc gk n s : Nat} {K nonce : Nat → B} (h : Str w gn gc gk K nonce n) (hk : Keeps s w w') (h1 : gn ≠ s) (h2 : gc ≠ s) (h3 : gk ≠ s) : Str w' gn gc gk K nonce n :=
  ⟨hk.is h.num h1, by obtain ⟨cc, h4, h5⟩ := h.blk; exact ⟨cc, hk.is h4 h2, h5⟩, hk.is h.key h3, h.ne⟩
theorem byte_of (n s : Nat) (h : n < 4294967296) : IntKind.u8.wrap ((n : Int) / ((2 : Int) ^ s)) = ofB (BitVec.ofNat 8 (n / 2 ^ s)) := by
  have e : ((n : Int) / ((2 : Int) ^ s)) = ((n / 2 ^ s : Nat) : Int) := by simp
  rw [e]
  generalize n / 2 ^ s = m
  show (m : Int) % 256 = _
  unfold ofB
  rw [BitVec.toNat_ofNat]
  omega
set_option maxRecDepth 100000 in
set_option maxHeartbeats 4000000 in
theorem next_calls (gn gc gk : Nat) (K nonce : Nat → B) (E : (Nat → B) → Nat → B) (hE : ∀ (b : Nat → B) (w : World), Calls Try.prog 35 #[.agg (cB 752 K), .agg (cB 16 b)] w fun e w' => e = .returned (.agg (cB 16 (E b))) ∧ Below w.heap.size w w')
    (n : Nat) (hn : n < 1000000) (w : World) (h : Str w gn gc gk K nonce n) :
    Calls Try.prog 34 #[.pointer (some ⟨gn, 0, none⟩), .pointer (some ⟨gc, 0, none⟩), .pointer (some ⟨gk, 0, none⟩)] w fun e w' => e = .returned (.agg (cB 16 (E (ctr nonce (n + 1))))) ∧ Str w' gn gc gk K nonce (n + 1) ∧ Two gn gc w w' := by
  obtain ⟨cc, hcc, hnon⟩ := h.blk
  have c0 : w.cell? ⟨gn, 0, none⟩ = some (.int .u32 (n : Int)) := by rw [h.num.cell]; rfl
  have f0 := h.num.free 0
  have hlt := h.num.lt
  obtain ⟨m, hm⟩ : ∃ m : Nat, m = n + 1 := ⟨_, rfl⟩
  have HM := Lib.hid hm
  clear hm
  have HNON := Lib.hid hnon
  have HNE := Lib.hid h.ne
  have HSZ := Lib.hid (show gn < w.heap.size ∧ gc < w.heap.size from ⟨h.num.lt, hcc.lt⟩)
  have HKZ : Hid (gk ≠ w.heap.size) := fun e => by have := h.key.lt; omega
  have HZN : Hid (w.heap.size ≠ gc) := fun e => by have := HSZ.out; omega
  have hnum := h.num.set 0 (.int .u32 (m : Int))
  have HNw1 : Hid (Blk.Is ((w.setCell ⟨gn, 0, none⟩ (.int .u32 (m : Int))).alloc (.cells (cB 16 z16) 37)) gn #[.int .u32 (m : Int)] 70) := hnum.alloc _
  have HCw1 : Hid (Blk.Is ((w.setCell ⟨gn, 0, none⟩ (.int .u32 (m : Int))).alloc (.cells (cB 16 z16) 37)) gc (cB 16 cc) 37) := (hcc.other (fun e => h.ne.1 e.symm) _).alloc _
  have HKw1 : Hid (Blk.Is ((w.setCell ⟨gn, 0, none⟩ (.int .u32 (m : Int))).alloc (.cells (cB 16 z16) 37)) gk (cB 752 K) 53) := (h.key.other (fun e => h.ne.2.1 e.symm) _).alloc _
  have HZw1 : Hid (Blk.Is ((w.setCell ⟨gn, 0, none⟩ (.int .u32 (m : Int))).alloc (.cells (cB 16 z16) 37)) w.heap.size (cB 16 z16) 37) := by
    have h2 := Blk.Is.new (w.setCell ⟨gn, 0, none⟩ (.int .u32 (m : Int))) (cB 16 z16) 37
    rw [show (w.setCell ⟨gn, 0, none⟩ (.int .u32 (m : Int))).heap.size = w.heap.size by simp] at h2
    exact h2
  have HTw1 : Hid (Two gn gc w ((w.setCell ⟨gn, 0, none⟩ (.int .u32 (m : Int))).alloc (.cells (cB 16 z16) 37))) := ((Two.refl gn gc w).set HSZ.out (p := ⟨gn, 0, none⟩) (Or.inl rfl) _).alloc _
  clear h hcc hnon hnum
  go_enter Try.func34, Try.ntmps34
  go_wp2_with fail
  have hm := HM.out
  have em : (n : Int) + 1 = (m : Int) := by omega
  rw [em, lit16]
  clear c0 f0 em hlt
  generalize (w.setCell ⟨gn, 0, none⟩ (.int .u32 (m : Int))).alloc (.cells (cB 16 z16) 37) = w1 at *
  generalize hgz : w.heap.size = gz at *
  have HGZ := Lib.hid hgz
  clear hgz
  have hm32 : m < 4294967296 := by omega
  have s3 : IntKind.u8.wrap ((m : Int) / 16777216) = ofB (BitVec.ofNat 8 (m / 2 ^ 24)) := byte_of m 24 hm32
  have s2 : IntKind.u8.wrap ((m : Int) / 65536) = ofB (BitVec.ofNat 8 (m / 2 ^ 16)) := byte_of m 16 hm32
  have s1 : IntKind.u8.wrap ((m : Int) / 256) = ofB (BitVec.ofNat 8 (m / 2 ^ 8)) := byte_of m 8 hm32
  have s0 : IntKind.u8.wrap (m : Int) = ofB (BitVec.ofNat 8 m) := by
    show (m : Int) % 256 = _
    unfold ofB
    rw [BitVec.toNat_ofNat]
    omega
  have HCT : Hid (∀ q, q < 16 → updB (updB (updB (updB cc 12 (BitVec.ofNat 8 (m / 2 ^ 24))) 13 (BitVec.ofNat 8 (m / 2 ^ 16))) 14 (BitVec.ofNat 8 (m / 2 ^ 8))) 15 (BitVec.ofNat 8 m) q = ctr nonce m q) := fun q hq => by
    unfold updB ctr
    by_cases h12 : q < 12
    · rw [if_pos h12, if_neg (by omega), if_neg (by omega), if_neg (by omega), if_neg (by omega)]
      exact HNON.out q h12
    · rw [if_neg h12]
      have hq4 : q = 12 ∨ q = 13 ∨ q = 14 ∨ q = 15 := by omega
      rcases hq4 with rfl | rfl | rfl | rfl
      · rfl
      · rfl
      · rfl
      · show BitVec.ofNat 8 m = BitVec.ofNat 8 (m / 2 ^ 0)
        rw [Nat.pow_zero, Nat.div_one]
  clear hm hm32 hn
  generalize (BitVec.ofNat 8 (m / 2 ^ 24) : B) = b3 at *
  generalize (BitVec.ofNat 8 (m / 2 ^ 16) : B) = b2 at *
  generalize (BitVec.ofNat 8 (m / 2 ^ 8) : B) = b1 at *
  generalize (BitVec.ofNat 8 m : B) = b0 at *
  -- region 2
  refine start_ (n := 19) (S := fun w' => w'.cell? ⟨gn, 0, none⟩ = some (.int .u32 (m : Int))) (ds := []) #[false, false, false, false, false, false, false, false, false, false, false, false, false, false, false, false, false, false, false] (by kernel_rfl) rfl rfl ((by rw [HNw1.out.drew.cell]; rfl)) (fun hHeld => ?_)
  have HNw2 := Lib.hid HNw1.out.drew
  have HCw2 := Lib.hid HCw1.out.drew
  have HKw2 := Lib.hid HKw1.out.drew
  have HZw2 := Lib.hid HZw1.out.drew
  have HTw2 := Lib.hid HTw1.out.drew
  clear HNw1 HCw1 HKw1 HZw1 HTw1
  generalize w1.drew = w2 at *
  refine take_ (i := 0) (N := some 6) (v := ?_) (a' := ?_) #[true, false, false, false, false, false, false, false, false, false, false, false, false, false, false, false, false, false, false] rfl rfl (by kernel_rfl) (fun _ _ _ h => h) (Or.inl ⟨by rfl, ?_⟩) hHeld ?_ ?_
  rotate_left
  · intro w' s0
    go_simp
    with_reducible rfl
  rotate_left
  · simp only [Act.put, List.setIfInBounds_toArray, List.set_cons_zero, List.set_cons_succ, i64_w, i32_w]
    rfl
  refine pure_ (i := 1) (N := some 7) (v := ?_) (a' := ?_) #[true, true, false, false, false, false, false, false, false, false, false, false, false, false, false, false, false, false, false] rfl rfl (by kernel_rfl) (fun _ _ _ h => h) (Or.inl ⟨by rfl, ?_⟩) ?_ ?_
  rotate_left
  · intro w'
    go_simp
    with_reducible rfl
  rotate_left
  · simp only [Act.put, List.setIfInBounds_toArray, List.set_cons_zero, List.set_cons_succ, i64_w, i32_w]
    rfl
  refine pure_ (i := 2) (N := some 8) (v := ?_) (a' := ?_) #[true, true, true, false, false, false, false, false, false, false, false, false, false, false, false, false, false, false, false] rfl rfl (by kernel_rfl) (fun _ _ _ h => h) (Or.inl ⟨by rfl, ?_⟩) ?_ ?_
  rotate_left
  · intro w'
    go_simp
    with_reducible rfl
  rotate_left
  · simp only [Act.put, List.setIfInBounds_toArray, List.set_cons_zero, List.set_cons_succ, i64_w, i32_w]
    rfl
  refine pure_ (i := 11) (N := some 17) (v := ?_) (a' := ?_) #[true, true, true, false, false, false, false, false, false, false, false, true, false, false, false, false, false, false, false] rfl rfl (by kernel_rfl) (fun _ _ _ h => h) (Or.inl ⟨by rfl, ?_⟩) ?_ ?_
  rotate_left
  · intro w'
    go_simp
    with_reducible rfl
  rotate_left
  · simp only [Act.put, List.setIfInBounds_toArray, List.set_cons_zero, List.set_cons_succ, i64_w, i32_w]
    rfl
  refine take_ (i := 3) (N := some 9) (v := ?_) (a' := ?_) #[true, true, true, true, false, false, false, false, false, false, false, true, false, false, false, false, false, false, false] rfl rfl (by kernel_rfl) (fun _ _ _ h => h) (Or.inl ⟨by rfl, ?_⟩) hHeld ?_ ?_
  rotate_left
  · intro w' s0
    go_simp
    with_reducible rfl
  rotate_left
  · simp only [Act.put, List.setIfInBounds_toArray, List.set_cons_zero, List.set_cons_succ, i64_w, i32_w]
    rfl
  refine pure_ (i := 4) (N := some 10) (v := ?_) (a' := ?_) #[true, true, true, true, true, false, false, false, false, false, false, true, false, false, false, false, false, false, false] rfl rfl (by kernel_rfl) (fun _ _ _ h => h) (Or.inl ⟨by rfl, ?_⟩) ?_ ?_
  rotate_left
  · intro w'
    go_simp
    with_reducible rfl
  rotate_left
  · simp only [Act.put, List.setIfInBounds_toArray, List.set_cons_zero, List.set_cons_succ, i64_w, i32_w]
    rfl
  refine pure_ (i := 5) (N := some 11) (v := ?_) (a' := ?_) #[true, true, true, true, true, true, false, false, false, false, false, true, false, false, false, false, false, false, false] rfl rfl (by kernel_rfl) (fun _ _ _ h => h) (Or.inl ⟨by rfl, ?_⟩) ?_ ?_
  rotate_left
  · intro w'
    go_simp
    with_reducible rfl
  rotate_left
  · simp only [Act.put, List.setIfInBounds_toArray, List.set_cons_zero, List.set_cons_succ, i64_w, i32_w]
    rfl
  refine take_ (i := 6) (N := some 12) (v := ?_) (a' := ?_) #[true, true, true, true, true, true, true, false, false, false, false, true, false, false, false, false, false, false, false] rfl rfl (by kernel_rfl) (fun _ _ _ h => h) (Or.inl ⟨by rfl, ?_⟩) hHeld ?_ ?_
  rotate_left
  · intro w' s0
    go_simp
    with_reducible rfl
  rotate_left
  · simp only [Act.put, List.setIfInBounds_toArray, List.set_cons_zero, List.set_cons_succ, i64_w, i32_w]
    rfl
  refine pure_ (i := 7) (N := some 13) (v := ?_) (a' := ?_) #[true, true, true, true, true, true, true, true, false, false, false, true, false, false, false, false, false, false, false] rfl rfl (by kernel_rfl) (fun _ _ _ h => h) (Or.inl ⟨by rfl, ?_⟩) ?_ ?_
  rotate_left
  · intro w'
    go_simp
    with_reducible rfl
  rotate_left
  · simp only [Act.put, List.setIfInBounds_toArray, List.set_cons_zero, List.set_cons_succ, i64_w, i32_w]
    rfl
  refine pure_ (i := 8) (N := some 14) (v := ?_) (a' := ?_) #[true, true, true, true, true, true, true, true, true, false, false, true, false, false, false, false, false, false, false] rfl rfl (by kernel_rfl) (fun _ _ _ h => h) (Or.inl ⟨by rfl, ?_⟩) ?_ ?_
  rotate_left
  · intro w'
    go_simp
    with_reducible rfl
  rotate_left
  · simp only [Act.put, List.setIfInBounds_toArray, List.set_cons_zero, List.set_cons_succ, i64_w, i32_w]
    rfl
  refine take_ (i := 9) (N := some 15) (v := ?_) (a' := ?_) #[true, true, true, true, true, true, true, true, true, true, false, true, false, false, false, false, false, false, false] rfl rfl (by kernel_rfl) (fun _ _ _ h => h) (Or.inl ⟨by rfl, ?_⟩) hHeld ?_ ?_
  rotate_left
  · intro w' s0
    go_simp
    with_reducible rfl
  rotate_left
  · simp only [Act.put, List.setIfInBounds_toArray, List.set_cons_zero, List.set_cons_succ, i64_w, i32_w]
    rfl
  refine pure_ (i := 10) (N := some 16) (v := ?_) (a' := ?_) #[true, true, true, true, true, true, true, true, true, true, true, true, false, false, false, false, false, false, false] rfl rfl (by kernel_rfl) (fun _ _ _ h => h) (Or.inl ⟨by rfl, ?_⟩) ?_ ?_
  rotate_left
  · intro w'
    go_simp
    with_reducible rfl
  rotate_left
  · simp only [Act.put, List.setIfInBounds_toArray, List.set_cons_zero, List.set_cons_succ, i64_w, i32_w]
    rfl
  refine one_ (i := 12) (N := none) #[true, true, true, true, true, true, true, true, true, true, true, true, true, false, false, false, false, false, false] rfl rfl (by kernel_rfl) (by decide) (fun K hK => ?_)
  have z0 : w2.cell? ⟨gc, 12, none⟩ = some (.int .u8 (ofB ((cc) 12))) := by rw [HCw2.out.cell]; exact cB_get 16 _ 12 (by decide)
  have fr := HCw2.out.free 12
  refine skip_ (w1 := ?_) (by rfl) rfl ?_ ?_
  rotate_left
  · go_simp
    rfl
  have HCw3 := Lib.hid (HCw2.out.set 12 (.int .u8 (ofB b3)))
  rw [cB_set] at HCw3
  have HNw3 := Lib.hid (HNw2.out.other (a := ⟨gc, 12, none⟩) HNE.out.1 (.int .u8 (ofB b3)))
  have HKw3 := Lib.hid (HKw2.out.other (a := ⟨gc, 12, none⟩) (fun e => HNE.out.2.2 e.symm) (.int .u8 (ofB b3)))
  have HZw3 := Lib.hid (HZw2.out.other (a := ⟨gc, 12, none⟩) HZN.out (.int .u8 (ofB b3)))
  have HTw3 := Lib.hid (HTw2.out.set (by rw [HGZ.out]; exact HSZ.out) (p := ⟨gc, 12, none⟩) (Or.inr rfl) (.int .u8 (ofB b3)))
  clear z0 fr HCw2 HNw2 HKw2 HZw2 HTw2
  generalize w2.setCell ⟨gc, 12, none⟩ (.int .u8 (ofB b3)) = w3 at *
  refine hK.out _ _ ((by rw [HNw3.out.cell]; rfl)) (fun hHeld => ?_)
  clear hK K
  refine pure_ (i := 13) (N := some 18) (v := ?_) (a' := ?_) #[true, true, true, true, true, true, true, true, true, true, true, true, true, true, false, false, false, false, false] rfl rfl (by kernel_rfl) (fun _ _ _ h => h) (Or.inl ⟨by rfl, ?_⟩) ?_ ?_
  rotate_left
  · intro w'
    go_simp
    with_reducible rfl
  rotate_left
  · simp only [Act.put, List.setIfInBounds_toArray, List.set_cons_zero, List.set_cons_succ, i64_w, i32_w]
    rfl
  refine one_ (i := 14) (N := none) #[true, true, true, true, true, true, true, true, true, true, true, true, true, true, true, false, false, false, false] rfl rfl (by kernel_rfl) (by decide) (fun K hK => ?_)
  have z0 : w3.cell? ⟨gc, 13, none⟩ = some (.int .u8 (ofB ((updB cc 12 b3) 13))) := by rw [HCw3.out.cell]; exact cB_get 16 _ 13 (by decide)
  have fr := HCw3.out.free 13
  refine skip_ (w1 := ?_) (by rfl) rfl ?_ ?_
  rotate_left
  · go_simp
    rfl
  have HCw4 := Lib.hid (HCw3.out.set 13 (.int .u8 (ofB b2)))
  rw [cB_set] at HCw4
  have HNw4 := Lib.hid (HNw3.out.other (a := ⟨gc, 13, none⟩) HNE.out.1 (.int .u8 (ofB b2)))
  have HKw4 := Lib.hid (HKw3.out.other (a := ⟨gc, 13, none⟩) (fun e => HNE.out.2.2 e.symm) (.int .u8 (ofB b2)))
  have HZw4 := Lib.hid (HZw3.out.other (a := ⟨gc, 13, none⟩) HZN.out (.int .u8 (ofB b2)))
  have HTw4 := Lib.hid (HTw3.out.set (by rw [HGZ.out]; exact HSZ.out) (p := ⟨gc, 13, none⟩) (Or.inr rfl) (.int .u8 (ofB b2)))
  clear z0 fr HCw3 HNw3 HKw3 HZw3 HTw3
  generalize w3.setCell ⟨gc, 13, none⟩ (.int .u8 (ofB b2)) = w4 at *
  refine hK.out _ _ ((by rw [HNw4.out.cell]; rfl)) (fun hHeld => ?_)
  clear hK K
  refine pure_ (i := 15) (N := some 19) (v := ?_) (a' := ?_) #[true, true, true, true, true, true, true, true, true, true, true, true, true, true, true, true, false, false, false] rfl rfl (by kernel_rfl) (fun _ _ _ h => h) (Or.inl ⟨by rfl, ?_⟩) ?_ ?_
  rotate_left
  · intro w'
    go_simp
    with_reducible rfl
  rotate_left
  · simp only [Act.put, List.setIfInBounds_toArray, List.set_cons_zero, List.set_cons_succ, i64_w, i32_w]
    rfl
  refine one_ (i := 16) (N := none) #[true, true, true, true, true, true, true, true, true, true, true, true, true, true, true, true, true, false, false] rfl rfl (by kernel_rfl) (by decide) (fun K hK => ?_)
  have z0 : w4.cell? ⟨gc, 14, none⟩ = some (.int .u8 (ofB ((updB (updB cc 12 b3) 13 b2) 14))) := by rw [HCw4.out.cell]; exact cB_get 16 _ 14 (by decide)
  have fr := HCw4.out.free 14
  refine skip_ (w1 := ?_) (by rfl) rfl ?_ ?_
  rotate_left
  · go_simp
    rfl
  have HCw5 := Lib.hid (HCw4.out.set 14 (.int .u8 (ofB b1)))
  rw [cB_set] at HCw5
  have HNw5 := Lib.hid (HNw4.out.other (a := ⟨gc, 14, none⟩) HNE.out.1 (.int .u8 (ofB b1)))
  have HKw5 := Lib.hid (HKw4.out.other (a := ⟨gc, 14, none⟩) (fun e => HNE.out.2.2 e.symm) (.int .u8 (ofB b1)))
  have HZw5 := Lib.hid (HZw4.out.other (a := ⟨gc, 14, none⟩) HZN.out (.int .u8 (ofB b1)))
  have HTw5 := Lib.hid (HTw4.out.set (by rw [HGZ.out]; exact HSZ.out) (p := ⟨gc, 14, none⟩) (Or.inr rfl) (.int .u8 (ofB b1)))
  clear z0 fr HCw4 HNw4 HKw4 HZw4 HTw4
  generalize w4.setCell ⟨gc, 14, none⟩ (.int .u8 (ofB b1)) = w5 at *
  refine hK.out _ _ ((by rw [HNw5.out.cell]; rfl)) (fun hHeld => ?_)
  clear hK K
  refine pure_ (i := 17) (N := some 20) (v := ?_) (a' := ?_) #[true, true, true, true, true, true, true, true, true, true, true, true, true, true, true, true, true, true, false] rfl rfl (by kernel_rfl) (fun _ _ _ h => h) (Or.inl ⟨by rfl, ?_⟩) ?_ ?_
  rotate_left
  · intro w'
    go_simp
    with_reducible rfl
  rotate_left
  · simp only [Act.put, List.setIfInBounds_toArray, List.set_cons_zero, List.set_cons_succ, i64_w, i32_w]
    rfl
  refine one_ (i := 18) (N := none) #[true, true, true, true, true, true, true, true, true, true, true, true, true, true, true, true, true, true, true] rfl rfl (by kernel_rfl) (by decide) (fun K hK => ?_)
  have z0 : w5.cell? ⟨gc, 15, none⟩ = some (.int .u8 (ofB ((updB (updB (updB cc 12 b3) 13 b2) 14 b1) 15))) := by rw [HCw5.out.cell]; exact cB_get 16 _ 15 (by decide)
  have fr := HCw5.out.free 15
  refine skip_ (w1 := ?_) (by rfl) rfl ?_ ?_
  rotate_left
  · go_simp
    rfl
  have HCw6 := Lib.hid (HCw5.out.set 15 (.int .u8 (ofB b0)))
  rw [cB_set] at HCw6
  have HNw6 := Lib.hid (HNw5.out.other (a := ⟨gc, 15, none⟩) HNE.out.1 (.int .u8 (ofB b0)))
  have HKw6 := Lib.hid (HKw5.out.other (a := ⟨gc, 15, none⟩) (fun e => HNE.out.2.2 e.symm) (.int .u8 (ofB b0)))
  have HZw6 := Lib.hid (HZw5.out.other (a := ⟨gc, 15, none⟩) HZN.out (.int .u8 (ofB b0)))
  have HTw6 := Lib.hid (HTw5.out.set (by rw [HGZ.out]; exact HSZ.out) (p := ⟨gc, 15, none⟩) (Or.inr rfl) (.int .u8 (ofB b0)))
  clear z0 fr HCw5 HNw5 HKw5 HZw5 HTw5
  generalize w5.setCell ⟨gc, 15, none⟩ (.int .u8 (ofB b0)) = w6 at *
  refine hK.out _ _ ((by rw [HNw6.out.cell]; rfl)) (fun hHeld => ?_)
  clear hK K
  refine done_ (by kernel_rfl) ?_
  -- behind it
  clear s0 s1 s2 s3
  rw [cB_congr HCT.out] at HCw6
  have HC6 : Hid (Blk.Is w6 gc (cB 16 (ctr nonce m)) 37) := HCw6
  clear HCw6 HCT
  have lk := Blk.load_row HKw6.out (P := Try.prog) (t := 53) Try.underlying53 rfl (by rw [cB_size]; kernel_rfl)
  have lc := Blk.load_row HC6.out (P := Try.prog) (t := 37) Try.underlying37 rfl (by rw [cB_size]; kernel_rfl)
  go_wp2_with fail
  refine (hE (ctr nonce m) w6).mono ?_
  rintro e w7 ⟨rfl, hb⟩
  clear lk lc
  have HN7 := Lib.hid (HNw6.out.below hb HNw6.out.lt)
  have HC7 := Lib.hid (HC6.out.below hb HC6.out.lt)
  have HK7 := Lib.hid (HKw6.out.below hb HKw6.out.lt)
  have HZ7 := Lib.hid (HZw6.out.below hb HZw6.out.lt)
  have HT7 := Lib.hid (HTw6.out.below_ hb)
  obtain ⟨out, hout⟩ : ∃ out, out = E (ctr nonce m) := ⟨_, rfl⟩
  rw [← hout]
  have HOUT := Lib.hid hout
  clear hout
  have hsr := Blk.store_row (P := Try.prog) (t := 37) (cB 16 out) HZ7.out (by rw [cB_size]; kernel_rfl) (by rw [cB_size, cB_size]) (cB_one _ _)
  have HZ8 := Lib.hid (HZ7.out.setRow (cB 16 out))
  have hkp : Keeps gz w7 (w7.setRow gz (cB 16 out)) := ⟨Blk.below_setRow (Below.refl _ _) (Nat.le_refl _) _, fun k _ hk => setRow_other w7 gz k _ hk⟩
  have hgn : gn ≠ gz := fun e => by have := HSZ.out; omega
  have hgc : gc ≠ gz := fun e => by have := HSZ.out; omega
  have HN8 := Lib.hid (hkp.is HN7.out hgn)
  have HC8 := Lib.hid (hkp.is HC7.out hgc)
  have HK8 := Lib.hid (hkp.is HK7.out (fun e => HKZ.out e))
  have HT8 := Lib.hid (HT7.out.row (k := gz) (by rw [HGZ.out]; exact Nat.le_refl _) (cB 16 out))
  clear hkp hgn hgc
  go_wp2_with fail
  refine bodyPost_ret (results_cell_row rfl _ _ gz 37 (cB 16 out) (0, 0) _ rfl HZ8.out Try.underlying37 rfl (by rw [cB_size]; kernel_rfl)) rfl ?_
  rw [← HM.out]
  exact ⟨by rw [HOUT.out], ⟨HN8.out, ⟨_, HC8.out, fun q hq => by unfold ctr; rw [if_pos hq]⟩, HK8.out, HNE.out⟩, HT8.out⟩
/-- The stream as a value. -/
def strV (gn gc gk : Nat) : Value := .func (.func 34) #[] #[.pointer (some ⟨gn, 0, none⟩), .pointer (some ⟨gc, 0, none⟩), .pointer (some ⟨gk, 0, none⟩)]
set_option maxRecDepth 100000 in
set_option maxHeartbeats 4000000 in
theorem stream_calls (K nonce : Nat → B) (w : World) : Calls Try.prog 23 #[.agg (cB 752 K), .agg (cB 12 nonce)] w fun e w' =>
    ∃ gn gc gk, e = .returned (strV gn gc gk) ∧ Str w' gn gc gk K nonce 0 ∧ w.heap.size ≤ gn ∧ w.heap.size ≤ gc ∧ w.heap.size ≤ gk ∧ Below w.heap.size w w' := by
  have e1 : (w.alloc (.cells (cB 752 K) 53)).heap.size = w.heap.size + 1 := by simp
  have e2 : ((w.alloc (.cells (cB 752 K) 53)).alloc (.cells (cB 12 nonce) 23)).heap.size = w.heap.size + 1 + 1 := by simp
  have HK0 := Lib.hid (((Blk.Is.new w (cB 752 K) 53).alloc (.cells (cB 12 nonce) 23)).alloc (.cells (cB 16 z16) 37))
  have HN0 := Lib.hid ((Blk.Is.new (w.alloc (.cells (cB 752 K) 53)) (cB 12 nonce) 23).alloc (.cells (cB 16 z16) 37))
  have HC0 := Lib.hid (Blk.Is.new ((w.alloc (.cells (cB 752 K) 53)).alloc (.cells (cB 12 nonce) 23)) (cB 16 z16) 37)
  rw [e1] at HN0
  rw [e2] at HC0
  have HB0 := Lib.hid ((((Below.refl _ w).alloc (Nat.le_refl _) (.cells (cB 752 K) 53)).alloc (by omega) (.cells (cB 12 nonce) 23)).alloc (by omega) (.cells (cB 16 z16) 37))
  clear e1 e2
  go_enter Try.func23, Try.ntmps23
  go_wp2_with fail
  rw [lit16]
  generalize ((w.alloc (.cells (cB 752 K) 53)).alloc (.cells (cB 12 nonce) 23)).alloc (.cells (cB 16 z16) 37) = w0 at *
  generalize hg : w.heap.size = g at *
  have HG := Lib.hid hg
  clear hg
  obtain ⟨w1, hcp, hC1, hP1⟩ := cp_mid HC0.out.drew 0 12 16 16 (by omega) (by omega) HN0.out.drew (by omega) 12 24 24 3 5 Try.underlying24 (by kernel_rfl)
  have HK1 := Lib.hid (hP1.is HK0.out.drew (by omega))
  have HB1 := Lib.hid (HB0.out.drew.trans (hP1.below.mono (by omega)))
  have HC1 := Lib.hid hC1
  have HS1 := Lib.hid (show g + 1 + 1 < w1.heap.size from hC1.lt)
  clear hC1 hP1
  go_region
  clear hcp
  have HN2 : Hid (Blk.Is (w1.alloc (.cells #[.int .u32 0] 70)) w1.heap.size #[.int .u32 0] 70) := Blk.Is.new w1 _ _
  have HK2 := Lib.hid (HK1.out.alloc (.cells #[.int .u32 0] 70))
  have HC2 := Lib.hid (HC1.out.alloc (.cells #[.int .u32 0] 70))
  have HB2 := Lib.hid (HB1.out.alloc (by have := HS1.out; omega) (.cells #[.int .u32 0] 70))
  go_wp2_with fail
  go_ret
  refine ⟨w1.heap.size, g + 1 + 1, g, rfl, ⟨HN2.out, ⟨_, HC2.out, fun q hq => by unfold blend; rw [if_pos (by omega), Nat.sub_zero]⟩, HK2.out, by have := HS1.out; omega, by have := HS1.out; omega, by omega⟩, by have := HS1.out; have := HG.out; omega, by have := HG.out; omega, by rw [HG.out]; exact Nat.le_refl _, by rw [HG.out]; exact HB2.out⟩
end Go.Proofs.Ytbebmbcjddibaaa.Gcm
/- What is said here: the program's turn: bytes with the key stream added. -/
namespace Go.Proofs.Ytbebmbcjddibaaa.Gcm
set_option linter.unusedVariables false
set_option linter.unusedSimpArgs false
open Go.RowKit Go.Proofs.YtbebmbcjddibaaaW.PrintWords Go.Proofs.YtbebmbcjddibaaaW.PrintLast Go.Proofs.YtbebmbcjddibaaaW.PrintMore Go.Proofs.Ytbebmbcjddibaaa.PG Gf Gfi Poly AesF Aes Lng
attribute [local go_sem ↓] ld53 st53 ld23 st23
/-- The stream's block as it stands ahead of place i. -/
def curB (E : (Nat → B) → Nat → B) (nonce : Nat → B) (n0 i : Nat) : Nat → B := if i = 0 then z16 else E (ctr nonce (n0 + (i + 15) / 16))
/-- The byte that is told at place j. -/
def outB (E : (Nat → B) → Nat → B) (nonce : Nat → B) (n0 : Nat) (l : List Int) (j : Nat) : Int := ofB (toB (l.getD j 0) ^^^ E (ctr nonce (n0 + j / 16 + 1)) (j % 16))
def outL (E : (Nat → B) → Nat → B) (nonce : Nat → B) (n0 : Nat) (l : List Int) (i : Nat) : List Int := (List.range i).map (outB E nonce n0 l)
theorem outL_succ (E : (Nat → B) → Nat → B) (nonce : Nat → B) (n0 : Nat) (l : List Int) (i : Nat) : outL E nonce n0 l (i + 1) = outL E nonce n0 l i ++ [outB E nonce n0 l i] := by
  unfold outL
  rw [List.range_succ, List.map_append]; rfl
theorem outL_len (E : (Nat → B) → Nat → B) (nonce : Nat → B) (n0 : Nat) (l : List Int) (i : Nat) : (outL E nonce n0 l i).length = i := by simp [outL]
theorem txt_cell {w : World} {A : Option Addr} {c : Nat} {l : List Int} (h : Txt w A c l) (i : Nat) (hi : i < l.length) : ∃ ad, A = some ad ∧ w.cell? (ad.add i) = some (.int .u8 (ofB (toB (l.getD i 0)))) := by
  obtain ⟨_, _, hc⟩ := Kd.reads_of_C (d := (0 : Int)) h.row
  obtain ⟨ad, e, hcell⟩ := hc (by omega)
  refine ⟨ad, e, ?_⟩
  have hm : l.getD i 0 ∈ l := by rw [List.getD_eq_getElem?_getD, List.getElem?_eq_getElem hi]; exact List.getElem_mem hi
  rw [ofB_toB (h.by_ _ hm).1 (h.by_ _ hm).2]
  exact hcell i hi
set_option maxRecDepth 100000 in
set_option maxHeartbeats 4000000 in
theorem turn_calls (gn gc gk : Nat) (K nonce : Nat → B) (E : (Nat → B) → Nat → B) (hE : ∀ (b : Nat → B) (w : World), Calls Try.prog 35 #[.agg (cB 752 K), .agg (cB 16 b)] w fun e w' => e = .returned (.agg (cB 16 (E b))) ∧ Below w.heap.size w w')
    (A : Option Addr) (c : Nat) (l : List Int) (n0 : Nat) (hn0 : n0 < 10) (wb w : World) (hT : Txt wb A c l) (hwb : Below wb.heap.size wb w) (hgn : wb.heap.size ≤ gn) (hgc : wb.heap.size ≤ gc) (hS : Str w gn gc gk K nonce n0) (hl : l.length < 200000) :
    Calls Try.prog 24 #[.slice none 0 0, .slice A l.length c, strV gn gc gk] w fun e w' =>
      ∃ v, e = .returned v ∧ Row.Is w' w.heap.size v (outL E nonce n0 l l.length) ∧ Str w' gn gc gk K nonce (n0 + (l.length + 15) / 16) ∧ Two gn gc w w' := by
  have HT := Lib.hid hT
  have HWB := Lib.hid (show Below wb.heap.size wb w from hwb)
  have HGN := Lib.hid (And.intro hgn hgc)
  have HSZ : Hid (gn < w.heap.size ∧ gc < w.heap.size) := ⟨hS.num.lt, by obtain ⟨cc, h, _⟩ := hS.blk; exact h.lt⟩
  have HL := Lib.hid hl
  have HGK : Hid (gk < w.heap.size) := hS.key.lt
  have HN0 := Lib.hid hn0
  have HS0 : Hid (Str (w.alloc (.cells (cB 16 z16) 37)) gn gc gk K nonce n0) := hS.alloc _
  have HZ0 := Lib.hid (Blk.Is.new w (cB 16 z16) 37)
  have HW0 := Lib.hid ((Two.refl gn gc w).alloc (.cells (cB 16 z16) 37))
  have HR0 := Lib.hid (Row.Is.nil (w.alloc (.cells (cB 16 z16) 37)) (w.heap.size + 1))
  clear hT hwb hgn hgc hS hn0
  unfold strV
  go_enter Try.func24, Try.ntmps24
  go_wp2_with fail
  rw [lit16]
  generalize w.alloc (.cells (cB 16 z16) 37) = w0 at *
  generalize hg : w.heap.size = g at *
  have HG := Lib.hid hg
  clear hg
  go_loopw [0, 8, 9, 12, 13, 14, 15, 16, 17, 18, 19, 20, 21, 22, 23, 24, 25, 26, 27, 28, 29, 30, 31] (fun v0 v8 v9 v12 v13 v14 v15 v16 v17 v18 v19 v20 v21 v22 v23 v24 v25 v26 v27 v28 v29 v30 v31 wr => ∃ (i : Nat), i ≤ l.length ∧ v12 = .int .i64 (i : Int) ∧ Hid (Row.Is wr (g + 1) v0 (outL E nonce n0 l i)) ∧ Hid (Blk.Is wr g (cB 16 (curB E nonce n0 i)) 37) ∧ Hid (Str wr gn gc gk K nonce (n0 + (i + 15) / 16)) ∧ Hid (Two gn gc w wr)) (fun _ _ _ v12 _ _ _ _ _ _ _ _ _ _ _ _ _ _ _ _ _ _ _ _ => l.length - (intOf v12).toNat)
  case atStart => exact ⟨0, by omega, rfl, HR0, HZ0, HS0, HW0⟩
  case round =>
    clear HR0 HZ0 HS0 HW0
    obtain ⟨i, hi_, rfl, HR, HZ, HS, HW⟩ := hrel
    obtain ⟨wo, rfl⟩ : ∃ wo, wo = wr := ⟨_, rfl⟩
    have HTW : Hid (Txt wo A c l) := HT.out.below (HWB.out.trans (HW.out.below _ HGN.out.1 HGN.out.2 HWB.out.size))
    by_cases hlt : i < l.length
    · obtain ⟨ad, rfl, hcell⟩ := txt_cell HTW.out i hlt
      obtain ⟨bx, hbx⟩ : ∃ bx, bx = toB (l.getD i 0) := ⟨_, rfl⟩
      rw [← hbx] at hcell
      have HBX := Lib.hid hbx
      clear hbx HTW
      have hlL := HL.out
      have hn0 := HN0.out
      by_cases h16 : i % 16 = 0
      · have htm : Int.tmod (i : Int) 16 = 0 := by rw [Int.tmod_eq_emod_of_nonneg (by omega)]; omega
        go_wp2_with fail
        refine (next_calls gn gc gk K nonce E hE (n0 + (i + 15) / 16) (by omega) wo HS.out).mono ?_
        rintro e w5 ⟨rfl, hS5, hW5⟩
        rw [show n0 + (i + 15) / 16 + 1 = n0 + i / 16 + 1 by omega] at hS5 ⊢
        obtain ⟨sB, hsB⟩ : ∃ sB, sB = E (ctr nonce (n0 + i / 16 + 1)) := ⟨_, rfl⟩
        rw [← hsB]
        have HSB := Lib.hid hsB
        have HJ := Lib.hid h16
        clear hsB
        have hgn : g ≠ gn := fun e => by have := HSZ.out; have := HG.out; omega
        have hgc : g ≠ gc := fun e => by have := HSZ.out; have := HG.out; omega
        have HZ5 := Lib.hid (hW5.is HZ.out hgn hgc)
        have HR5 := Lib.hid (HR.out.move (fun k hk => hW5.rest k (HR.out.lt k hk).2 (fun e => by have := (HR.out.lt k hk).1; have := HSZ.out; have := HG.out; omega) (fun e => by have := (HR.out.lt k hk).1; have := HSZ.out; have := HG.out; omega)))
        have HW5 := Lib.hid (HW.out.trans hW5)
        have HS5 := Lib.hid hS5
        clear hS5 hW5 HZ HR HW HS hcell
        have hsr := Blk.store_row (P := Try.prog) (t := 37) (cB 16 sB) HZ5.out (by rw [cB_size]; kernel_rfl) (by rw [cB_size, cB_size]) (cB_one _ _)
        have hkp : Keeps g w5 (w5.setRow g (cB 16 sB)) := ⟨Blk.below_setRow (Below.refl _ _) (Nat.le_refl _) _, fun k _ hk => setRow_other w5 g k _ hk⟩
        have HSq := Lib.hid (HS5.out.keeps hkp (fun e => hgn e.symm) (fun e => hgc e.symm) (fun e => by have := HGK.out; have := HG.out; omega))
        have HRq := Lib.hid (HR5.out.move (fun k hk => hkp.rest k (HR5.out.lt k hk).2 (fun e => by have := (HR5.out.lt k hk).1; omega)))
        have HWq := Lib.hid (HW5.out.row (k := g) (by rw [HG.out]; exact Nat.le_refl _) (cB 16 sB))
        have HZq := Lib.hid (HZ5.out.setRow (cB 16 sB))
        clear hkp HS5 HR5 HW5 HZ5 hgn hgc
        have hcs : (w5.setRow g (cB 16 sB)).cell? ⟨g, 0, none⟩ = some (.int .u8 (ofB (sB 0))) := by rw [HZq.out.cell]; exact cB_get 16 sB _ (by omega)
        have hx : Go.bits .xor .u8 (ofB bx) (ofB (sB 0)) = ofB (bx ^^^ sB 0) := bits_xor _ _
        have hbase : g + 1 ≤ (w5.setRow g (cB 16 sB)).heap.size := HZq.out.lt
        have hlen : (outL E nonce n0 l i).length ≤ 100000000000000 := by rw [outL_len]; have := HL.out; omega
        have HV : Hid (ofB (bx ^^^ sB 0) = outB E nonce n0 l i) := by
          rw [HSB.out, HBX.out]
          show _ = ofB (toB (l.getD i 0) ^^^ E (ctr nonce (n0 + i / 16 + 1)) (i % 16))
          rw [HJ.out]
        generalize ofB (bx ^^^ sB 0) = ov at *
        generalize ofB (sB 0) = sv at *
        go_wp2_with (refine Row.append (g + 1) _ _ u0 (outL E nonce n0 l i) ov rfl rfl rfl rfl (by simp [World.setRow]) HRq.out hbase hlen ?_; intro v1 w7 q1 q2 q3 q4)
        have HR7 := Lib.hid q1
        have HZ7 := Lib.hid (HZq.out.below q2 (Nat.lt_succ_self g))
        have HS7 := Lib.hid (HSq.out.under q2 (by have := HSZ.out; have := HG.out; omega) (by have := HSZ.out; have := HG.out; omega) (by have := HGK.out; have := HG.out; omega))
        have HW7 := Lib.hid (HWq.out.under q2 (by have := HG.out; omega))
        clear q1 q2 q3 q4 hcs hx hbase hlen HRq HZq HSq HWq
        go_wp2_with fail
        go_roundw
        case rel =>
          refine ⟨i + 1, by omega, by go_num, ?_, ?_, ?_, HW7⟩
          · rw [outL_succ, ← HV.out]
            exact HR7.out
          · have e : curB E nonce n0 (i + 1) = sB := by
              rw [HSB.out]
              unfold curB
              rw [if_neg (by omega), show (i + 1 + 15) / 16 = i / 16 + 1 by omega, ← Nat.add_assoc]
            rw [e]
            exact HZ7.out
          · rw [show (i + 1 + 15) / 16 = i / 16 + 1 by omega, ← Nat.add_assoc]
            exact HS7.out
        case measure => simp [intOf]; omega
      · obtain ⟨j, hj⟩ : ∃ j : Nat, j = i % 16 := ⟨_, rfl⟩
        have htm : Int.tmod (i : Int) 16 = (j : Int) := by rw [Int.tmod_eq_emod_of_nonneg (by omega)]; omega
        have hz : ((j : Int) == 0) = false := beq_eq_false_iff_ne.mpr (by omega)
        have hj16 : j < 16 := by omega
        have hjI : (j : Int) < 16 := by omega
        have HJ : Hid (i % 16 = j) := hj.symm
        have hi0 : i ≠ 0 := by omega
        obtain ⟨sB, hsB⟩ : ∃ sB, sB = E (ctr nonce (n0 + i / 16 + 1)) := ⟨_, rfl⟩
        have HSB := Lib.hid hsB
        have HZq : Hid (Blk.Is wo g (cB 16 sB) 37) := by
          have h := HZ.out
          unfold curB at h
          rw [if_neg hi0, show n0 + (i + 15) / 16 = n0 + i / 16 + 1 by omega, ← hsB] at h
          exact h
        have HSq : Hid (Str wo gn gc gk K nonce (n0 + i / 16 + 1)) := by
          have h := HS.out
          rw [show n0 + (i + 15) / 16 = n0 + i / 16 + 1 by omega] at h
          exact h
        have HRq := HR
        have HWq := HW
        clear hj hsB HZ HS HR HW hi0
        have hcs : wo.cell? ⟨g, j, none⟩ = some (.int .u8 (ofB (sB j))) := by rw [HZq.out.cell]; exact cB_get 16 sB _ (by omega)
        have hx : Go.bits .xor .u8 (ofB bx) (ofB (sB j)) = ofB (bx ^^^ sB j) := bits_xor _ _
        have hbase : g + 1 ≤ wo.heap.size := HZq.out.lt
        have hlen : (outL E nonce n0 l i).length ≤ 100000000000000 := by rw [outL_len]; have := HL.out; omega
        have HV : Hid (ofB (bx ^^^ sB j) = outB E nonce n0 l i) := by
          rw [HSB.out, HBX.out]
          show _ = ofB (toB (l.getD i 0) ^^^ E (ctr nonce (n0 + i / 16 + 1)) (i % 16))
          rw [HJ.out]
        generalize ofB (bx ^^^ sB j) = ov at *
        generalize ofB (sB j) = sv at *
        go_wp2_with (refine Row.append (g + 1) _ _ u0 (outL E nonce n0 l i) ov rfl rfl rfl rfl rfl HRq.out hbase hlen ?_; intro v1 w7 q1 q2 q3 q4)
        have HR7 := Lib.hid q1
        have HZ7 := Lib.hid (HZq.out.below q2 (Nat.lt_succ_self g))
        have HS7 := Lib.hid (HSq.out.under q2 (by have := HSZ.out; have := HG.out; omega) (by have := HSZ.out; have := HG.out; omega) (by have := HGK.out; have := HG.out; omega))
        have HW7 := Lib.hid (HWq.out.under q2 (by have := HG.out; omega))
        clear q1 q2 q3 q4 hcs hx hbase hlen HRq HZq HSq HWq
        go_wp2_with fail
        go_roundw
        case rel =>
          refine ⟨i + 1, by omega, by go_num, ?_, ?_, ?_, HW7⟩
          · rw [outL_succ, ← HV.out]
            exact HR7.out
          · have e : curB E nonce n0 (i + 1) = sB := by
              rw [HSB.out]
              unfold curB
              rw [if_neg (by omega), show (i + 1 + 15) / 16 = i / 16 + 1 by omega, ← Nat.add_assoc]
            rw [e]
            exact HZ7.out
          · rw [show (i + 1 + 15) / 16 = i / 16 + 1 by omega, ← Nat.add_assoc]
            exact HS7.out
        case measure => simp [intOf]; omega
    · obtain rfl : i = l.length := by omega
      go_wp2_with fail
      go_ret
      exact ⟨_, rfl, HR.out.lower (by have := HG.out; omega), HS.out, HW.out⟩
end Go.Proofs.Ytbebmbcjddibaaa.Gcm
/- What is said here: the program's tag. -/
namespace Go.Proofs.Ytbebmbcjddibaaa.Gcm
set_option linter.unusedVariables false
set_option linter.unusedSimpArgs false
open Go.RowKit Go.Proofs.YtbebmbcjddibaaaW.PrintWords Go.Proofs.YtbebmbcjddibaaaW.PrintLast Go.Proofs.YtbebmbcjddibaaaW.PrintMore Go.Proofs.Ytbebmbcjddibaaa.PG Gf Gfi Poly AesF Aes Lng
theorem bd37 (ps : Array (Nat × Value)) : Instr.build 37 ps = bd 37 ps := rfl
attribute [local go_sem ↓] ld53 st53 ld23 st23 ld74 st74 bd37
theorem bd_zero37 (W : World) : (bd 37 #[]).run Try.prog W = .ok (.agg (cB 16 z16)) W := by kernel_rfl
/-- A block's bytes as a text. -/
def bytesL (f : Nat → B) : List Int := (List.range 16).map fun q => ofB (f q)
theorem bytesL_at (f : Nat → B) (i : Nat) (h : i < 16) : (bytesL f).getD i 0 = ofB (f i) := by
  unfold bytesL
  rw [List.getD_eq_getElem?_getD, List.getElem?_map, List.getElem?_range h]; rfl
theorem bytesL_len (f : Nat → B) : (bytesL f).length = 16 := by simp [bytesL]
theorem read_blk {w : World} {b : Nat} {f : Nat → B} {T : TypeId} (h : Blk.Is w b (cB 16 f) T) : Calls Try.prog 37 #[.slice (some ⟨b, 0, none⟩) 16 16] w fun e' w' => e' = .returned (.agg (Lw (blkW f))) ∧ Below w.heap.size w w' := by
  have hC : Kd.C (Kd.int .u8) w (some ⟨b, 0, none⟩) (bytesL f).length (bytesL f) := by
    refine Kd.C_of_reads (d := (0 : Int)) (h1 := fun _ => rfl) ⟨rfl, by rw [bytesL_len]; omega, fun _ => ⟨⟨b, 0, none⟩, rfl, fun j hj => ?_⟩⟩
    rw [bytesL_len] at hj
    rw [bytesL_at f j hj]
    have e : (⟨b, 0, none⟩ : Addr).add j = ⟨b, j, none⟩ := by rw [Addr.add_mid, Nat.zero_add]
    rw [e, h.cell]
    exact cB_get 16 f j hj
  have h2 := gcm_read.calls 40 (some ⟨b, 0, none⟩) 16 (bytesL f) _ _ w hC (by rw [bytesL_len]; exact Nat.le_refl _) (read_f _ f (fun i hi => bytesL_at f i hi))
  rw [bytesL_len] at h2
  exact h2
/-- A long element's byte q. -/
def byteW (Y : W) (q : Nat) : B := (Y >>> (120 - 8 * q)).setWidth 8
theorem byte64 (u : U) : IntKind.u8.wrap (o64 u) = ofB (u.setWidth 8) := by
  show (o64 u) % 256 = _
  unfold o64 ofB
  rw [BitVec.toNat_setWidth]
  show _ = ((u.toNat % 256 : Nat) : Int)
  omega
theorem byte_hi (Y : W) (i : Nat) (h : i < 8) : (hi Y >>> (56 - 8 * i)).setWidth 8 = byteW Y i := by
  unfold byteW
  apply BitVec.eq_of_getLsbD_eq
  intro j hj
  rw [BitVec.getLsbD_setWidth, BitVec.getLsbD_setWidth, BitVec.getLsbD_ushiftRight, BitVec.getLsbD_ushiftRight, hi_bit _ _ (by omega)]
  congr 2
  omega
theorem byte_lo (Y : W) (i : Nat) (h : i < 8) : (lo Y >>> (56 - 8 * i)).setWidth 8 = byteW Y (8 + i) := by
  unfold byteW
  apply BitVec.eq_of_getLsbD_eq
  intro j hj
  rw [BitVec.getLsbD_setWidth, BitVec.getLsbD_setWidth, BitVec.getLsbD_ushiftRight, BitVec.getLsbD_ushiftRight, lo_bit _ _ (by omega)]
  congr 2
  omega
def tagF (first : Nat → B) (Y : W) : Nat → B := fun q => first q ^^^ byteW Y q
/-- The tag, as far as i of its bytes, on both sides, are told. -/
def tagS (first : Nat → B) (Y : W) (i : Nat) : Nat → B := fun q => if q < i ∨ (8 ≤ q ∧ q < 8 + i) then tagF first Y q else 0#8
theorem tagS_zero (first : Nat → B) (Y : W) : tagS first Y 0 = z16 := by
  funext q
  unfold tagS
  rw [if_neg (by omega)]; rfl
theorem tagS_next (first : Nat → B) (Y : W) (i : Nat) (h : i < 8) : updB (updB (tagS first Y i) i (tagF first Y i)) (8 + i) (tagF first Y (8 + i)) = tagS first Y (i + 1) := by
  funext q
  unfold updB tagS
  by_cases e1 : q = 8 + i
  · subst e1
    rw [if_pos rfl, if_pos (by omega)]
  · rw [if_neg e1]
    by_cases e2 : q = i
    · subst e2
      rw [if_pos rfl, if_pos (by omega)]
    · rw [if_neg e2]
      by_cases e3 : q < i ∨ (8 ≤ q ∧ q < 8 + i)
      · rw [if_pos e3, if_pos (by omega)]
      · rw [if_neg e3, if_neg (by omega)]
set_option maxRecDepth 100000 in
set_option maxHeartbeats 4000000 in
theorem tag_calls (K : Nat → B) (E : (Nat → B) → Nat → B) (hE : ∀ (b : Nat → B) (w : World), Calls Try.prog 35 #[.agg (cB 752 K), .agg (cB 16 b)] w fun e w' => e = .returned (.agg (cB 16 (E b))) ∧ Below w.heap.size w w')
    (first : Nat → B) (A1 A2 : Option Addr) (c1 c2 : Nat) (l1 l2 : List Int) (w : World) (h1 : Txt w A1 c1 l1) (h2 : Txt w A2 c2 l2) :
    Calls Try.prog 25 #[.agg (cB 752 K), .agg (cB 16 first), .slice A1 l1.length c1, .slice A2 l2.length c2] w fun e w' => e = .returned (.agg (cB 16 (tagF first (ghash (blkW (E z16)) l1 l2)))) ∧ Below w.heap.size w w' := by
  have e1 : (w.alloc (.cells (cB 752 K) 53)).heap.size = w.heap.size + 1 := by simp
  have e2 : ((w.alloc (.cells (cB 752 K) 53)).alloc (.cells (cB 16 first) 37)).heap.size = w.heap.size + 1 + 1 := by simp
  have HK0 := Lib.hid (((Blk.Is.new w (cB 752 K) 53).alloc (.cells (cB 16 first) 37)).alloc (.cells (cB 16 z16) 37))
  have HF0 := Lib.hid ((Blk.Is.new (w.alloc (.cells (cB 752 K) 53)) (cB 16 first) 37).alloc (.cells (cB 16 z16) 37))
  have HR0 := Lib.hid (Blk.Is.new ((w.alloc (.cells (cB 752 K) 53)).alloc (.cells (cB 16 first) 37)) (cB 16 z16) 37)
  rw [e1] at HF0
  rw [e2] at HR0
  have HB0 := Lib.hid ((((Below.refl _ w).alloc (Nat.le_refl _) (.cells (cB 752 K) 53)).alloc (by omega) (.cells (cB 16 first) 37)).alloc (by omega) (.cells (cB 16 z16) 37))
  have HT1 : Hid (∀ v : World, Below w.heap.size w v → Txt v A1 c1 l1) := fun v hb => h1.below hb
  have HT2 : Hid (∀ v : World, Below w.heap.size w v → Txt v A2 c2 l2) := fun v hb => h2.below hb
  clear e1 e2 h1 h2
  have hb37 := bd_zero37
  have lk : (Blk.ld 53 (.pointer (some ⟨w.heap.size, 0, none⟩))).run Try.prog _ = .ok _ _ := Blk.load_row HK0.out (P := Try.prog) (t := 53) Try.underlying53 rfl (by rw [cB_size]; kernel_rfl)
  rw [← lit16] at lk HK0 HF0 HR0 HB0
  go_enter Try.func25, Try.ntmps25
  go_wp2_with fail
  rw [lit16] at lk HK0 HF0 HR0 HB0 ⊢
  clear lk
  generalize ((w.alloc (.cells (cB 752 K) 53)).alloc (.cells (cB 16 first) 37)).alloc (.cells (cB 16 z16) 37) = w0 at *
  generalize hg : w.heap.size = g at *
  have HG := Lib.hid hg
  clear hg
  refine (hE z16 w0).mono ?_
  rintro e w1 ⟨rfl, hb⟩
  have HK1 := Lib.hid (HK0.out.below hb HK0.out.lt)
  have HF1 := Lib.hid (HF0.out.below hb HF0.out.lt)
  have HR1 := Lib.hid (HR0.out.below hb HR0.out.lt)
  have HB1 := Lib.hid (HB0.out.trans (hb.mono (by have := HR0.out.lt; omega)))
  clear hb HK0 HF0 HR0 HB0
  obtain ⟨h, hh⟩ : ∃ h, h = E z16 := ⟨_, rfl⟩
  rw [← hh]
  have HH := Lib.hid hh
  clear hh
  have hst := st_new w1 h
  have HZ2 := Lib.hid (Blk.Is.new w1 (cB 16 h) 37)
  have HF2 := Lib.hid (HF1.out.alloc (.cells (cB 16 h) 37))
  have HR2 := Lib.hid (HR1.out.alloc (.cells (cB 16 h) 37))
  have HB2 := Lib.hid (HB1.out.alloc (by have := HR1.out.lt; omega) (.cells (cB 16 h) 37))
  clear HK1 HF1 HR1 HB1
  go_wp2_with fail
  clear hst
  generalize w1.alloc (.cells (cB 16 h) 37) = w2 at *
  refine (read_blk HZ2.out).mono ?_
  rintro e w3 ⟨rfl, hb⟩
  have HF3 := Lib.hid (HF2.out.below hb HF2.out.lt)
  have HR3 := Lib.hid (HR2.out.below hb HR2.out.lt)
  have HB3 := Lib.hid (HB2.out.trans (hb.mono (by have := HR2.out.lt; omega)))
  clear hb HF2 HR2 HB2 HZ2
  go_wp2_with fail
  refine (hash_calls (blkW h) A1 A2 c1 c2 l1 l2 w3 (HT1.out w3 HB3.out) (HT2.out w3 HB3.out)).mono ?_
  rintro e w4 ⟨rfl, hb⟩
  have HF4 := Lib.hid (HF3.out.below hb HF3.out.lt)
  have HR4 := Lib.hid (HR3.out.below hb HR3.out.lt)
  have HB4 := Lib.hid (HB3.out.trans (hb.mono (by have := HR3.out.lt; omega)))
  clear hb HF3 HR3 HB3
  obtain ⟨Y, hY⟩ : ∃ Y, Y = ghash (blkW h) l1 l2 := ⟨_, rfl⟩
  rw [← hY]
  have HYE := Lib.hid hY
  clear hY
  have hst := st74_new w4 Y
  have HY5 := Lib.hid (Blk.Is.new w4 (Lw Y) 74)
  have HF5 := Lib.hid (HF4.out.alloc (.cells (Lw Y) 74))
  have HR5 := Lib.hid (HR4.out.alloc (.cells (Lw Y) 74))
  have HB5 := Lib.hid (HB4.out.alloc (by have := HR4.out.lt; omega) (.cells (Lw Y) 74))
  have HGY := Lib.hid (show g + 1 + 1 < w4.heap.size from HR4.out.lt)
  clear HF4 HR4 HB4
  go_wp2_with fail
  clear hst
  generalize w4.alloc (.cells (Lw Y) 74) = w5 at *
  generalize w4.heap.size = gy at *
  go_loopw [11, 20, 21, 22, 23, 24, 25, 26, 27, 28, 29, 30, 31, 32, 33, 34, 35, 36, 37, 38, 39, 40, 41, 42, 43, 44, 45, 46, 47, 48, 49, 50, 51] (fun v11 v20 v21 v22 v23 v24 v25 v26 v27 v28 v29 v30 v31 v32 v33 v34 v35 v36 v37 v38 v39 v40 v41 v42 v43 v44 v45 v46 v47 v48 v49 v50 v51 wr => ∃ (i : Nat), i ≤ 8 ∧ v20 = .int .i64 (i : Int) ∧ Hid (Blk.Is wr (g + 1) (cB 16 first) 37) ∧ Hid (Blk.Is wr (g + 1 + 1) (cB 16 (tagS first Y i)) 37) ∧ Hid (Blk.Is wr gy (Lw Y) 74) ∧ Hid (Below g w wr)) (fun _ v20 _ _ _ _ _ _ _ _ _ _ _ _ _ _ _ _ _ _ _ _ _ _ _ _ _ _ _ _ _ _ _ _ => 8 - (intOf v20).toNat)
  case atStart => exact ⟨0, by omega, rfl, HF5, by rw [tagS_zero]; exact HR5, HY5, HB5⟩
  case round =>
    clear HF5 HR5 HY5 HB5
    obtain ⟨i, hi_, rfl, HF, HR, HY, HB⟩ := hrel
    by_cases hlt : i < 8
    · have q0 := (Lw_cell HY.out).1
      have q1 := (Lw_cell HY.out).2
      have a0 : wr.cell? ⟨g + 1, i, none⟩ = some (.int .u8 (ofB (first i))) := by rw [HF.out.cell, cB_get 16 _ _ (by omega)]
      have b0 : wr.cell? ⟨g + 1 + 1, i, none⟩ = some (.int .u8 (ofB (tagS first Y i i))) := by rw [HR.out.cell, cB_get 16 _ _ (by omega)]
      have f0 := HR.out.free i
      have hq0 : o64 (hi Y) / 2 ^ (56 - 8 * i) % 256 = ofB (byteW Y i) := by rw [shr64, ← byte_hi Y i hlt]; exact byte64 _
      have hx0 : Go.bits .xor .u8 (ofB (first i)) (ofB (byteW Y i)) = ofB (tagF first Y i) := bits_xor _ _
      have hq1 : o64 (lo Y) / 2 ^ (56 - 8 * i) % 256 = ofB (byteW Y (8 + i)) := by rw [shr64, ← byte_lo Y i hlt]; exact byte64 _
      have hx1 : Go.bits .xor .u8 (ofB (first (8 + i))) (ofB (byteW Y (8 + i))) = ofB (tagF first Y (8 + i)) := bits_xor _ _
      have HNX := Lib.hid (tagS_next first Y i hlt)
      have HI := Lib.hid hlt
      go_wp2_with fail
      generalize decide ((i : Int) < 8) = di at *
      go_region
      clear a0 b0 f0 q0 hq0 hx0
      have HF6 := Lib.hid ((HF.out.other (a := ⟨g + 1 + 1, i, none⟩) (by simp) (.int .u8 (ofB (tagF first Y i)))).drew)
      have HY6 := Lib.hid ((HY.out.other (a := ⟨g + 1 + 1, i, none⟩) (by have := HGY.out; simp; omega) (.int .u8 (ofB (tagF first Y i)))).drew)
      have hr6 := (HR.out.set i (.int .u8 (ofB (tagF first Y i)))).drew
      rw [cB_set] at hr6
      have HR6 := Lib.hid hr6
      have HB6 := Lib.hid ((HB.out.setCell (p := ⟨g + 1 + 1, i, none⟩) (by show g ≤ g + 1 + 1; omega) (.int .u8 (ofB (tagF first Y i)))).drew)
      clear q1 HF HY HR HB hr6
      generalize (wr.setCell ⟨g + 1 + 1, i, none⟩ (.int .u8 (ofB (tagF first Y i)))).drew = w6 at *
      have q1 := (Lw_cell HY6.out).2
      have a0 : w6.cell? ⟨g + 1, 8 + i, none⟩ = some (.int .u8 (ofB (first (8 + i)))) := by rw [HF6.out.cell, cB_get 16 _ _ (by have := HI.out; omega)]
      have b0 : w6.cell? ⟨g + 1 + 1, 8 + i, none⟩ = some (.int .u8 (ofB (updB (tagS first Y i) i (tagF first Y i) (8 + i)))) := by rw [HR6.out.cell, cB_get 16 _ _ (by have := HI.out; omega)]
      have f0 := HR6.out.free (8 + i)
      generalize ofB (updB (tagS first Y i) i (tagF first Y i) (8 + i)) = cc at *
      go_wp2_with fail
      go_region
      clear a0 b0 f0 q1 hq1 hx1
      go_wp2_with fail
      go_roundw
      case rel =>
        refine ⟨i + 1, by have := HI.out; omega, by go_num, (HF6.out.other (by simp) _).drew, ?_, (HY6.out.other (by have := HGY.out; simp; omega) _).drew, (HB6.out.setCell (by show g ≤ g + 1 + 1; omega) _).drew⟩
        have h := (HR6.out.set (8 + i) (.int .u8 (ofB (tagF first Y (8 + i))))).drew
        rw [cB_set, HNX.out] at h
        exact h
      case measure => have := HI.out; simp [intOf]; omega
    · obtain rfl : i = 8 := by omega
      have e8 : cB 16 (tagS first Y 8) = cB 16 (tagF first Y) := cB_congr (fun q hq => by unfold tagS; rw [if_pos (by omega)])
      rw [e8] at HR
      clear e8
      have hll := Blk.load_row HR.out (P := Try.prog) (t := 37) Try.underlying37 rfl (by rw [cB_size]; kernel_rfl)
      have hss := Blk.store_same HR.out (P := Try.prog) (t := 37) (by rw [cB_size]; kernel_rfl) (cB_one _ _)
      have hfin : tagF first Y = tagF first (ghash (blkW (E z16)) l1 l2) := by rw [HYE.out, HH.out]
      have HFIN := Lib.hid hfin
      clear hfin
      go_wp2_with fail
      refine bodyPost_ret (results_cell_row rfl _ _ (g + 1 + 1) 37 (cB 16 (tagF first Y)) (0, 0) _ rfl HR.out Try.underlying37 rfl (by rw [cB_size]; kernel_rfl)) rfl ?_
      exact ⟨by rw [HFIN.out], by rw [HG.out]; exact HB.out⟩
end Go.Proofs.Ytbebmbcjddibaaa.Gcm
/- What is said here: what gcm.Seal makes. -/
namespace Go.Proofs.Ytbebmbcjddibaaa.Gcm
set_option linter.unusedVariables false
set_option linter.unusedSimpArgs false
open Go.RowKit Go.Proofs.YtbebmbcjddibaaaW.PrintWords Go.Proofs.YtbebmbcjddibaaaW.PrintLast Go.Proofs.YtbebmbcjddibaaaW.PrintMore Go.Proofs.Ytbebmbcjddibaaa.PG Gf Gfi Poly AesF Aes Lng
theorem ld22 (x : Value) : Instr.loadAt 22 x = Blk.ld 22 x := rfl
theorem ld12 (x : Value) : Instr.loadAt 23 x = Blk.ld 23 x := rfl
attribute [local go_sem ↓] ld53 st53 ld23 st23 ld22 ld12
theorem zeroKey53 (w : World) : (zeroValue 53).run Try.prog w = .ok (.agg (cB 752 key0)) w := zeroKey w
theorem st53_new (w : World) (f : Nat → B) : (Blk.st 53 (.pointer (some ⟨w.heap.size, 0, none⟩)) (.agg (cB 752 f))).run Try.prog (w.alloc (.cells (cB 752 key0) 53)) = .ok () (w.alloc (.cells (cB 752 f) 53)) :=
  run_storeAt_new w 53 _ _ (by rw [cB_size]; kernel_rfl) (by rw [cB_size, cB_size]) (cB_one 752 f)
/-- The text that is told: the plain bytes turned. -/
def bodyL (E : (Nat → B) → Nat → B) (nonce : Nat → B) (l : List Int) : List Int := outL E nonce 1 l l.length
def tagL (E : (Nat → B) → Nat → B) (nonce : Nat → B) (ad text : List Int) : List Int := bytesL (tagF (E (ctr nonce 1)) (ghash (blkW (E z16)) ad text))
def sealL (E : (Nat → B) → Nat → B) (nonce : Nat → B) (ad l : List Int) : List Int := bodyL E nonce l ++ tagL E nonce ad (bodyL E nonce l)
theorem body_len (E : (Nat → B) → Nat → B) (nonce : Nat → B) (l : List Int) : (bodyL E nonce l).length = l.length := outL_len _ _ _ _ _
theorem body_by (E : (Nat → B) → Nat → B) (nonce : Nat → B) (l : List Int) : ∀ x ∈ bodyL E nonce l, 0 ≤ x ∧ x < 256 := fun x hx => by
  unfold bodyL outL at hx
  obtain ⟨j, _, rfl⟩ := List.mem_map.1 hx
  exact ofB_range _
theorem blk_row {w : World} {b : Nat} {f : Nat → B} {T : TypeId} (h : Blk.Is w b (cB 16 f) T) : Kd.C (Kd.int .u8) w (some ⟨b, 0, none⟩) (bytesL f).length (bytesL f) := by
  refine Kd.C_of_reads (d := (0 : Int)) (h1 := fun _ => rfl) ⟨rfl, by rw [bytesL_len]; omega, fun _ => ⟨⟨b, 0, none⟩, rfl, fun j hj => ?_⟩⟩
  rw [bytesL_len] at hj
  rw [bytesL_at f j hj]
  have e : (⟨b, 0, none⟩ : Addr).add j = ⟨b, j, none⟩ := by rw [Addr.add_mid, Nat.zero_add]
  rw [e, h.cell]
  exact cB_get 16 f j hj
set_option maxRecDepth 100000 in
set_option maxHeartbeats 4000000 in
theorem seal_calls (key nonce K : Nat → B) (E : (Nat → B) → Nat → B) (hE : ∀ (b : Nat → B) (w : World), Calls Try.prog 35 #[.agg (cB 752 K), .agg (cB 16 b)] w fun e w' => e = .returned (.agg (cB 16 (E b))) ∧ Below w.heap.size w w')
    (hX : ∀ w : World, Calls Try.prog 22 #[.agg (cB 32 key)] w fun e w' => e = .returned (.agg (cB 752 K)) ∧ Below w.heap.size w w')
    (A1 A2 : Option Addr) (c1 c2 : Nat) (l1 l2 : List Int) (w : World) (h1 : Txt w A1 c1 l1) (h2 : Txt w A2 c2 l2) (hs1 : l1.length ≤ 65536) (hs2 : l2.length ≤ 65536) :
    Calls Try.prog 10 #[.agg (cB 32 key), .agg (cB 12 nonce), .slice A1 l1.length c1, .slice A2 l2.length c2] w fun e w' =>
      ∃ v, e = .returned v ∧ Row.Is w' w.heap.size v (sealL E nonce l1 l2) ∧ Below w.heap.size w w' := by
  have e1 : (w.alloc (.cells (cB 32 key) 22)).heap.size = w.heap.size + 1 := by simp
  have HK0 := Lib.hid ((Blk.Is.new w (cB 32 key) 22).alloc (.cells (cB 12 nonce) 23))
  have HN0 := Lib.hid (Blk.Is.new (w.alloc (.cells (cB 32 key) 22)) (cB 12 nonce) 23)
  rw [e1] at HN0
  have HB0 := Lib.hid (((Below.refl _ w).alloc (Nat.le_refl _) (.cells (cB 32 key) 22)).alloc (by omega) (.cells (cB 12 nonce) 23))
  have HT1 : Hid (∀ v : World, Below w.heap.size w v → Txt v A1 c1 l1) := fun v hb => h1.below hb
  have HT2 : Hid (∀ v : World, Below w.heap.size w v → Txt v A2 c2 l2) := fun v hb => h2.below hb
  have HT2W := Lib.hid h2
  clear e1 h1 h2
  have hzk := zeroKey53
  have g1 : ¬ (l1.length : Int) > 65536 := by omega
  have g2 : ¬ (l2.length : Int) > 65536 := by omega
  have lk := Blk.load_row HK0.out (P := Try.prog) (t := 22) Try.underlying22 rfl (by rw [cB_size]; kernel_rfl)
  go_enter Try.func10, Try.ntmps10
  go_wp2_with fail
  clear lk
  generalize (w.alloc (.cells (cB 32 key) 22)).alloc (.cells (cB 12 nonce) 23) = w0 at *
  refine (hX w0).mono ?_
  rintro e w1 ⟨rfl, hb⟩
  generalize hg : w.heap.size = g at *
  have HG := Lib.hid hg
  clear hg
  have HN1 := Lib.hid (HN0.out.below hb HN0.out.lt)
  have HB1 := Lib.hid (HB0.out.trans (hb.mono (by have := HN0.out.lt; omega)))
  clear hb HK0 HN0 HB0
  have hst := st53_new w1 K
  have HK2 := Lib.hid (Blk.Is.new w1 (cB 752 K) 53)
  have HN2 := Lib.hid (HN1.out.alloc (.cells (cB 752 K) 53))
  have HB2 := Lib.hid (HB1.out.alloc (by have := HN1.out.lt; omega) (.cells (cB 752 K) 53))
  have HGK := Lib.hid (show g + 1 < w1.heap.size from HN1.out.lt)
  clear HN1 HB1
  have lk := Blk.load_row HK2.out (P := Try.prog) (t := 53) Try.underlying53 rfl (by rw [cB_size]; kernel_rfl)
  have ln := Blk.load_row HN2.out (P := Try.prog) (t := 23) Try.underlying23 rfl (by rw [cB_size]; kernel_rfl)
  go_wp2_with fail
  clear hst lk ln hzk g1 g2
  generalize w1.alloc (.cells (cB 752 K) 53) = w2 at *
  generalize w1.heap.size = gk0 at *
  refine (stream_calls K nonce w2).mono ?_
  rintro e w3 ⟨gn, gc, gk, rfl, hS, hgn, hgc, hgk, hb⟩
  unfold strV
  have HS3 := Lib.hid hS
  have HK3 := Lib.hid (HK2.out.below hb HK2.out.lt)
  have HB3 := Lib.hid (HB2.out.trans (hb.mono (by have := HK2.out.lt; have := HGK.out; omega)))
  have HNE := Lib.hid (show gk0 < gn ∧ gk0 < gc from ⟨Nat.lt_of_lt_of_le HK2.out.lt hgn, Nat.lt_of_lt_of_le HK2.out.lt hgc⟩)
  clear hS hgn hgc hgk hb HN2 HK2 HB2
  go_wp2_with fail
  refine (next_calls gn gc gk K nonce E hE 0 (by decide) w3 HS3.out).mono ?_
  rintro e w4 ⟨rfl, hS4, hW4⟩
  have HK4 := Lib.hid (hW4.is HK3.out (by have := HNE.out; omega) (by have := HNE.out; omega))
  have HB4 := Lib.hid (HB3.out.trans (hW4.below g (by have := HNE.out; have := HGK.out; omega) (by have := HNE.out; have := HGK.out; omega) (by have := HK3.out.lt; have := HGK.out; omega)))
  have HS4 := Lib.hid hS4
  clear hS4 hW4 HS3 HK3 HB3
  obtain ⟨f1, hf1⟩ : ∃ f1, f1 = E (ctr nonce (0 + 1)) := ⟨_, rfl⟩
  rw [← hf1]
  have HF1 := Lib.hid hf1
  clear hf1
  have hst := st_new w4 f1
  have HF5 := Lib.hid (Blk.Is.new w4 (cB 16 f1) 37)
  have HK5 := Lib.hid (HK4.out.alloc (.cells (cB 16 f1) 37))
  have HB5 := Lib.hid (HB4.out.alloc (by have := HK4.out.lt; have := HGK.out; omega) (.cells (cB 16 f1) 37))
  have HS5 := Lib.hid (HS4.out.alloc (.cells (cB 16 f1) 37))
  have HF := Lib.hid (show gk0 < w4.heap.size ∧ gn < w4.heap.size ∧ gc < w4.heap.size from ⟨HK4.out.lt, HS4.out.num.lt, by obtain ⟨cc, h, _⟩ := HS4.out.blk; exact h.lt⟩)
  clear HK4 HB4 HS4
  go_wp2_with fail
  clear hst
  generalize w4.alloc (.cells (cB 16 f1) 37) = w5 at *
  generalize w4.heap.size = gf at *
  refine (turn_calls gn gc gk K nonce E hE A2 c2 l2 1 (by decide) w w5 HT2W.out (by rw [HG.out]; exact HB5.out) (by rw [HG.out]; have := HNE.out; have := HGK.out; omega) (by rw [HG.out]; have := HNE.out; have := HGK.out; omega) HS5.out (by omega)).mono ?_
  rintro e w6 ⟨v, rfl, hR, hS6, hW6⟩
  have HSZ5 : Hid (∀ k, w6.heap.size ≤ k → w5.heap.size ≤ k) := fun k hk => Nat.le_trans hW6.size hk
  have HR6 : Hid (Row.Is w6 w5.heap.size v (bodyL E nonce l2)) := hR
  have HK6 := Lib.hid (hW6.is HK5.out (by have := HNE.out; omega) (by have := HNE.out; omega))
  have HF6 := Lib.hid (hW6.is HF5.out (by have := HF.out; omega) (by have := HF.out; omega))
  have HB6 := Lib.hid (HB5.out.trans (hW6.below g (by have := HNE.out; have := HGK.out; omega) (by have := HNE.out; have := HGK.out; omega) (by have := HK5.out.lt; have := HGK.out; omega)))
  have HG5 := Lib.hid (show g ≤ w5.heap.size by have := HK5.out.lt; have := HGK.out; omega)
  clear hR hS6 hW6 HS5 HK5 HF5 HB5
  obtain ⟨A', c', rfl, hle, hC⟩ := HR6.out.reads
  have HTX := Lib.hid (show Txt w6 A' c' (bodyL E nonce l2) from ⟨hC, hle, body_by E nonce l2, by rw [body_len]; omega⟩)
  have HLB := Lib.hid (body_len E nonce l2)
  obtain ⟨T, hT⟩ : ∃ T, T = bodyL E nonce l2 := ⟨_, rfl⟩
  rw [← hT] at HR6 HTX HLB ⊢
  have HTE := Lib.hid hT
  clear hT hle hC
  have lk := Blk.load_row HK6.out (P := Try.prog) (t := 53) Try.underlying53 rfl (by rw [cB_size]; kernel_rfl)
  have lf := Blk.load_row HF6.out (P := Try.prog) (t := 37) Try.underlying37 rfl (by rw [cB_size]; kernel_rfl)
  go_wp2_with fail
  clear lk lf
  refine (tag_calls K E hE f1 A1 A' c1 c' l1 T w6 (HT1.out w6 HB6.out) HTX.out).mono ?_
  rintro e w7 ⟨rfl, hb⟩
  have HR7 := Lib.hid (HR6.out.below hb)
  have HB7 := Lib.hid (HB6.out.trans (hb.mono (by have := HF6.out.lt; have := HG5.out; have := HK6.out.lt; have := HGK.out; omega)))
  have HG7 := Lib.hid (show g ≤ w7.heap.size from Nat.le_trans (by have := HK6.out.lt; have := HGK.out; omega) hb.size)
  have HZ7 := Lib.hid (show w5.heap.size ≤ w7.heap.size by have := HR6.out; exact HSZ5.out _ hb.size)
  clear hb HR6 HB6 HK6 HF6 HTX
  obtain ⟨tg, htg⟩ : ∃ tg, tg = tagF f1 (ghash (blkW (E z16)) l1 T) := ⟨_, rfl⟩
  rw [← htg]
  have HTG := Lib.hid htg
  clear htg
  have hst := st_new w7 tg
  have HQ := Lib.hid (Blk.Is.new w7 (cB 16 tg) 37)
  have HR8 := Lib.hid (HR7.out.alloc (.cells (cB 16 tg) 37))
  have HB8 := Lib.hid (HB7.out.alloc HG7.out (.cells (cB 16 tg) 37))
  have hrow := blk_row HQ.out
  have hbase : w5.heap.size ≤ (w7.alloc (.cells (cB 16 tg) 37)).heap.size := Nat.le_trans HZ7.out (by simp)
  have hlen : T.length + (bytesL tg).length ≤ 100000000000000 := by rw [HLB.out, bytesL_len]; omega
  clear HR7 HB7
  go_wp2_with (refine Row.appendRow w5.heap.size _ _ _ T _ _ _ (bytesL tg) rfl rfl rfl rfl (by rw [bytesL_len]) HR8.out hrow hbase hlen ?_; intro v1 w9 q1 q2 q3 q4)
  have HR9 := Lib.hid q1
  have HB9 := Lib.hid (HB8.out.trans (q2.mono HG5.out))
  clear q1 q2 q3 q4 hrow hbase hlen hst HR8 HB8
  go_wp2_with fail
  go_ret
  refine ⟨v1, rfl, ?_, by rw [HG.out]; exact HB9.out⟩
  have h := HR9.out.lower HG5.out
  rw [HTG.out, HTE.out, HF1.out] at h
  rw [HG.out]
  exact h
set_option maxRecDepth 100000 in
set_option maxHeartbeats 4000000 in
/-- Too much is not sealed. -/
theorem seal_long (key nonce : Nat → B) (A1 A2 : Option Addr) (c1 c2 : Nat) (l1 l2 : List Int) (w : World) (hl : 65536 < l1.length ∨ 65536 < l2.length) :
    Calls Try.prog 10 #[.agg (cB 32 key), .agg (cB 12 nonce), .slice A1 l1.length c1, .slice A2 l2.length c2] w fun e w' => e = .returned (.slice none 0 0) ∧ Below w.heap.size w w' := by
  have HB0 := Lib.hid (((Below.refl _ w).alloc (Nat.le_refl _) (.cells (cB 32 key) 22)).alloc (by simp) (.cells (cB 12 nonce) 23))
  by_cases h1 : 65536 < l1.length
  · have g1 : (l1.length : Int) > 65536 := by omega
    go_enter Try.func10, Try.ntmps10
    go_wp2_with fail
    go_ret
    exact ⟨rfl, HB0.out⟩
  · have g1 : ¬ (l1.length : Int) > 65536 := by omega
    have g2 : (l2.length : Int) > 65536 := by omega
    go_enter Try.func10, Try.ntmps10
    go_wp2_with fail
    go_ret
    exact ⟨rfl, HB0.out⟩
end Go.Proofs.Ytbebmbcjddibaaa.Gcm
