/- What is said here: what gcm.Seal makes. -/
import Derived.Test.YtbebmbcjddibaaaGg
namespace Go.Proofs.Ytbebmbcjddibaaa.Gcm
set_option linter.unusedVariables false
set_option linter.unusedSimpArgs false
open Go.RowKit Go.Proofs.YtbebmbcjddibaaaW.PrintWords Go.Proofs.YtbebmbcjddibaaaW.PrintLast Go.Proofs.YtbebmbcjddibaaaW.PrintMore Go.Proofs.Ytbebmbcjddibaaa.PG Gf Gfi Poly AesF Aes Lng
theorem ld22 (x : Value) : Instr.loadAt 22 x = Blk.ld 22 x := rfl
theorem ld12 (x : Value) : Instr.loadAt 23 x = Blk.ld 23 x := rfl
attribute [local go_sem ↓] ld53 st53 ld23 st23 ld22 ld12
theorem zeroKey53 (w : World) : (zeroValue 53).run Try.prog w = .ok (.agg (cB 752 key0)) w := zeroKey w
theorem st53_new (w : World) (f : Nat → B) : (Blk.st 53 (.pointer (some ⟨w.heap.size, 0, none⟩)) (.agg (cB 752 f))).run Try.prog (w.alloc (.cells (cB 752 key0) 53)) = .ok () (w.alloc (.cells (cB 752 f) 53)) :=
  run_storeAt_new w 53 _ _ (by rw [cB_size]; kernel_rfl) (by rw [cB_size, cB_size]) (cB_one 752 f)
/-- The text that is told: the plain bytes turned. -/
def bodyL (E : (Nat → B) → Nat → B) (nonce : Nat → B) (l : List Int) : List Int := outL E nonce 1 l l.length
def tagL (E : (Nat → B) → Nat → B) (nonce : Nat → B) (ad text : List Int) : List Int := bytesL (tagF (E (ctr nonce 1)) (ghash (blkW (E z16)) ad text))
def sealL (E : (Nat → B) → Nat → B) (nonce : Nat → B) (ad l : List Int) : List Int := bodyL E nonce l ++ tagL E nonce ad (bodyL E nonce l)
theorem body_len (E : (Nat → B) → Nat → B) (nonce : Nat → B) (l : List Int) : (bodyL E nonce l).length = l.length := outL_len _ _ _ _ _
theorem body_by (E : (Nat → B) → Nat → B) (nonce : Nat → B) (l : List Int) : ∀ x ∈ bodyL E nonce l, 0 ≤ x ∧ x < 256 := fun x hx => by
  unfold bodyL outL at hx
  obtain ⟨j, _, rfl⟩ := List.mem_map.1 hx
  exact ofB_range _
theorem blk_row {w : World} {b : Nat} {f : Nat → B} {T : TypeId} (h : Blk.Is w b (cB 16 f) T) : Kd.C (Kd.int .u8) w (some ⟨b, 0, none⟩) (bytesL f).length (bytesL f) := by
  refine Kd.C_of_reads (d := (0 : Int)) (h1 := fun _ => rfl) ⟨rfl, by rw [bytesL_len]; omega, fun _ => ⟨⟨b, 0, none⟩, rfl, fun j hj => ?_⟩⟩
  rw [bytesL_len] at hj
  rw [bytesL_at f j hj]
  have e : (⟨b, 0, none⟩ : Addr).add j = ⟨b, j, none⟩ := by rw [Addr.add_mid, Nat.zero_add]
  rw [e, h.cell]
  exact cB_get 16 f j hj
set_option maxRecDepth 100000 in
set_option maxHeartbeats 4000000 in
theorem seal_calls (key nonce K : Nat → B) (E : (Nat → B) → Nat → B) (hE : ∀ (b : Nat → B) (w : World), Calls Try.prog 35 #[.agg (cB 752 K), .agg (cB 16 b)] w fun e w' => e = .returned (.agg (cB 16 (E b))) ∧ Below w.heap.size w w')
    (hX : ∀ w : World, Calls Try.prog 22 #[.agg (cB 32 key)] w fun e w' => e = .returned (.agg (cB 752 K)) ∧ Below w.heap.size w w')
    (A1 A2 : Option Addr) (c1 c2 : Nat) (l1 l2 : List Int) (w : World) (h1 : Txt w A1 c1 l1) (h2 : Txt w A2 c2 l2) (hs1 : l1.length ≤ 65536) (hs2 : l2.length ≤ 65536) :
    Calls Try.prog 10 #[.agg (cB 32 key), .agg (cB 12 nonce), .slice A1 l1.length c1, .slice A2 l2.length c2] w fun e w' =>
      ∃ v, e = .returned v ∧ Row.Is w' w.heap.size v (sealL E nonce l1 l2) ∧ Below w.heap.size w w' := by
  have e1 : (w.alloc (.cells (cB 32 key) 22)).heap.size = w.heap.size + 1 := by simp
  have HK0 := Lib.hid ((Blk.Is.new w (cB 32 key) 22).alloc (.cells (cB 12 nonce) 23))
  have HN0 := Lib.hid (Blk.Is.new (w.alloc (.cells (cB 32 key) 22)) (cB 12 nonce) 23)
  rw [e1] at HN0
  have HB0 := Lib.hid (((Below.refl _ w).alloc (Nat.le_refl _) (.cells (cB 32 key) 22)).alloc (by omega) (.cells (cB 12 nonce) 23))
  have HT1 : Hid (∀ v : World, Below w.heap.size w v → Txt v A1 c1 l1) := fun v hb => h1.below hb
  have HT2 : Hid (∀ v : World, Below w.heap.size w v → Txt v A2 c2 l2) := fun v hb => h2.below hb
  have HT2W := Lib.hid h2
  clear e1 h1 h2
  have hzk := zeroKey53
  have g1 : ¬ (l1.length : Int) > 65536 := by omega
  have g2 : ¬ (l2.length : Int) > 65536 := by omega
  have lk := Blk.load_row HK0.out (P := Try.prog) (t := 22) Try.underlying22 rfl (by rw [cB_size]; kernel_rfl)
  go_enter Try.func10, Try.ntmps10
  go_wp2_with fail
  clear lk
  generalize (w.alloc (.cells (cB 32 key) 22)).alloc (.cells (cB 12 nonce) 23) = w0 at *
  refine (hX w0).mono ?_
  rintro e w1 ⟨rfl, hb⟩
  generalize hg : w.heap.size = g at *
  have HG := Lib.hid hg
  clear hg
  have HN1 := Lib.hid (HN0.out.below hb HN0.out.lt)
  have HB1 := Lib.hid (HB0.out.trans (hb.mono (by have := HN0.out.lt; omega)))
  clear hb HK0 HN0 HB0
  have hst := st53_new w1 K
  have HK2 := Lib.hid (Blk.Is.new w1 (cB 752 K) 53)
  have HN2 := Lib.hid (HN1.out.alloc (.cells (cB 752 K) 53))
  have HB2 := Lib.hid (HB1.out.alloc (by have := HN1.out.lt; omega) (.cells (cB 752 K) 53))
  have HGK := Lib.hid (show g + 1 < w1.heap.size from HN1.out.lt)
  clear HN1 HB1
  have lk := Blk.load_row HK2.out (P := Try.prog) (t := 53) Try.underlying53 rfl (by rw [cB_size]; kernel_rfl)
  have ln := Blk.load_row HN2.out (P := Try.prog) (t := 23) Try.underlying23 rfl (by rw [cB_size]; kernel_rfl)
  go_wp2_with fail
  clear hst lk ln hzk g1 g2
  generalize w1.alloc (.cells (cB 752 K) 53) = w2 at *
  generalize w1.heap.size = gk0 at *
  refine (stream_calls K nonce w2).mono ?_
  rintro e w3 ⟨gn, gc, gk, rfl, hS, hgn, hgc, hgk, hb⟩
  unfold strV
  have HS3 := Lib.hid hS
  have HK3 := Lib.hid (HK2.out.below hb HK2.out.lt)
  have HB3 := Lib.hid (HB2.out.trans (hb.mono (by have := HK2.out.lt; have := HGK.out; omega)))
  have HNE := Lib.hid (show gk0 < gn ∧ gk0 < gc from ⟨Nat.lt_of_lt_of_le HK2.out.lt hgn, Nat.lt_of_lt_of_le HK2.out.lt hgc⟩)
  clear hS hgn hgc hgk hb HN2 HK2 HB2
  go_wp2_with fail
  refine (next_calls gn gc gk K nonce E hE 0 (by decide) w3 HS3.out).mono ?_
  rintro e w4 ⟨rfl, hS4, hW4⟩
  have HK4 := Lib.hid (hW4.is HK3.out (by have := HNE.out; omega) (by have := HNE.out; omega))
  have HB4 := Lib.hid (HB3.out.trans (hW4.below g (by have := HNE.out; have := HGK.out; omega) (by have := HNE.out; have := HGK.out; omega) (by have := HK3.out.lt; have := HGK.out; omega)))
  have HS4 := Lib.hid hS4
  clear hS4 hW4 HS3 HK3 HB3
  obtain ⟨f1, hf1⟩ : ∃ f1, f1 = E (ctr nonce (0 + 1)) := ⟨_, rfl⟩
  rw [← hf1]
  have HF1 := Lib.hid hf1
  clear hf1
  have hst := st_new w4 f1
  have HF5 := Lib.hid (Blk.Is.new w4 (cB 16 f1) 37)
  have HK5 := Lib.hid (HK4.out.alloc (.cells (cB 16 f1) 37))
  have HB5 := Lib.hid (HB4.out.alloc (by have := HK4.out.lt; have := HGK.out; omega) (.cells (cB 16 f1) 37))
  have HS5 := Lib.hid (HS4.out.alloc (.cells (cB 16 f1) 37))
  have HF := Lib.hid (show gk0 < w4.heap.size ∧ gn < w4.heap.size ∧ gc < w4.heap.size from ⟨HK4.out.lt, HS4.out.num.lt, by obtain ⟨cc, h, _⟩ := HS4.out.blk; exact h.lt⟩)
  clear HK4 HB4 HS4
  go_wp2_with fail
  clear hst
  generalize w4.alloc (.cells (cB 16 f1) 37) = w5 at *
  generalize w4.heap.size = gf at *
  refine (turn_calls gn gc gk K nonce E hE A2 c2 l2 1 (by decide) w w5 HT2W.out (by rw [HG.out]; exact HB5.out) (by rw [HG.out]; have := HNE.out; have := HGK.out; omega) (by rw [HG.out]; have := HNE.out; have := HGK.out; omega) HS5.out (by omega)).mono ?_
  rintro e w6 ⟨v, rfl, hR, hS6, hW6⟩
  have HSZ5 : Hid (∀ k, w6.heap.size ≤ k → w5.heap.size ≤ k) := fun k hk => Nat.le_trans hW6.size hk
  have HR6 : Hid (Row.Is w6 w5.heap.size v (bodyL E nonce l2)) := hR
  have HK6 := Lib.hid (hW6.is HK5.out (by have := HNE.out; omega) (by have := HNE.out; omega))
  have HF6 := Lib.hid (hW6.is HF5.out (by have := HF.out; omega) (by have := HF.out; omega))
  have HB6 := Lib.hid (HB5.out.trans (hW6.below g (by have := HNE.out; have := HGK.out; omega) (by have := HNE.out; have := HGK.out; omega) (by have := HK5.out.lt; have := HGK.out; omega)))
  have HG5 := Lib.hid (show g ≤ w5.heap.size by have := HK5.out.lt; have := HGK.out; omega)
  clear hR hS6 hW6 HS5 HK5 HF5 HB5
  obtain ⟨A', c', rfl, hle, hC⟩ := HR6.out.reads
  have HTX := Lib.hid (show Txt w6 A' c' (bodyL E nonce l2) from ⟨hC, hle, body_by E nonce l2, by rw [body_len]; omega⟩)
  have HLB := Lib.hid (body_len E nonce l2)
  obtain ⟨T, hT⟩ : ∃ T, T = bodyL E nonce l2 := ⟨_, rfl⟩
  rw [← hT] at HR6 HTX HLB ⊢
  have HTE := Lib.hid hT
  clear hT hle hC
  have lk := Blk.load_row HK6.out (P := Try.prog) (t := 53) Try.underlying53 rfl (by rw [cB_size]; kernel_rfl)
  have lf := Blk.load_row HF6.out (P := Try.prog) (t := 37) Try.underlying37 rfl (by rw [cB_size]; kernel_rfl)
  go_wp2_with fail
  clear lk lf
  refine (tag_calls K E hE f1 A1 A' c1 c' l1 T w6 (HT1.out w6 HB6.out) HTX.out).mono ?_
  rintro e w7 ⟨rfl, hb⟩
  have HR7 := Lib.hid (HR6.out.below hb)
  have HB7 := Lib.hid (HB6.out.trans (hb.mono (by have := HF6.out.lt; have := HG5.out; have := HK6.out.lt; have := HGK.out; omega)))
  have HG7 := Lib.hid (show g ≤ w7.heap.size from Nat.le_trans (by have := HK6.out.lt; have := HGK.out; omega) hb.size)
  have HZ7 := Lib.hid (show w5.heap.size ≤ w7.heap.size by have := HR6.out; exact HSZ5.out _ hb.size)
  clear hb HR6 HB6 HK6 HF6 HTX
  obtain ⟨tg, htg⟩ : ∃ tg, tg = tagF f1 (ghash (blkW (E z16)) l1 T) := ⟨_, rfl⟩
  rw [← htg]
  have HTG := Lib.hid htg
  clear htg
  have hst := st_new w7 tg
  have HQ := Lib.hid (Blk.Is.new w7 (cB 16 tg) 37)
  have HR8 := Lib.hid (HR7.out.alloc (.cells (cB 16 tg) 37))
  have HB8 := Lib.hid (HB7.out.alloc HG7.out (.cells (cB 16 tg) 37))
  have hrow := blk_row HQ.out
  have hbase : w5.heap.size ≤ (w7.alloc (.cells (cB 16 tg) 37)).heap.size := Nat.le_trans HZ7.out (by simp)
  have hlen : T.length + (bytesL tg).length ≤ 100000000000000 := by rw [HLB.out, bytesL_len]; omega
  clear HR7 HB7
  go_wp2_with (refine Row.appendRow w5.heap.size _ _ _ T _ _ _ (bytesL tg) rfl rfl rfl rfl (by rw [bytesL_len]) HR8.out hrow hbase hlen ?_; intro v1 w9 q1 q2 q3 q4)
  have HR9 := Lib.hid q1
  have HB9 := Lib.hid (HB8.out.trans (q2.mono HG5.out))
  clear q1 q2 q3 q4 hrow hbase hlen hst HR8 HB8
  go_wp2_with fail
  go_ret
  refine ⟨v1, rfl, ?_, by rw [HG.out]; exact HB9.out⟩
  have h := HR9.out.lower HG5.out
  rw [HTG.out, HTE.out, HF1.out] at h
  rw [HG.out]
  exact h
set_option maxRecDepth 100000 in
set_option maxHeartbeats 4000000 in
/-- Too much is not sealed. -/
theorem seal_long (key nonce : Nat → B) (A1 A2 : Option Addr) (c1 c2 : Nat) (l1 l2 : List Int) (w : World) (hl : 65536 < l1.length ∨ 65536 < l2.length) :
    Calls Try.prog 10 #[.agg (cB 32 key), .agg (cB 12 nonce), .slice A1 l1.length c1, .slice A2 l2.length c2] w fun e w' => e = .returned (.slice none 0 0) ∧ Below w.heap.size w w' := by
  have HB0 := Lib.hid (((Below.refl _ w).alloc (Nat.le_refl _) (.cells (cB 32 key) 22)).alloc (by simp) (.cells (cB 12 nonce) 23))
  by_cases h1 : 65536 < l1.length
  · have g1 : (l1.length : Int) > 65536 := by omega
    go_enter Try.func10, Try.ntmps10
    go_wp2_with fail
    go_ret
    exact ⟨rfl, HB0.out⟩
  · have g1 : ¬ (l1.length : Int) > 65536 := by omega
    have g2 : (l2.length : Int) > 65536 := by omega
    go_enter Try.func10, Try.ntmps10
    go_wp2_with fail
    go_ret
    exact ⟨rfl, HB0.out⟩
end Go.Proofs.Ytbebmbcjddibaaa.Gcm
