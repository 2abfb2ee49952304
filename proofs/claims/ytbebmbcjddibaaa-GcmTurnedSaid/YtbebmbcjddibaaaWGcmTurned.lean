/- It is proved here that the law GcmTurned, called with any texts, answers true and leaves what was there alone. No condition. -/
import Derived.Test.YtbebmbcjddibaaaGp
namespace Go.Proofs.Ytbebmbcjddibaaa.HGcmTurned
set_option linter.unusedVariables false
set_option linter.unusedSimpArgs false
open Go.RowKit Go.Proofs.YtbebmbcjddibaaaW.PrintWords Go.Proofs.YtbebmbcjddibaaaW.PrintLast Go.Proofs.YtbebmbcjddibaaaW.PrintMore
open Gf Gfi Poly AesF Aes Lng Gcm
attribute [local go_sem ↓] ld22 ld12 ld23 st23
attribute [local go_sem ↓] eqq23 st12 bd37
set_option maxRecDepth 100000 in
set_option maxHeartbeats 4000000 in
theorem long (key nonce : Nat → B) (A1 A2 : Option Addr) (c1 c2 : Nat) (l1 l2 : List Int) (wh at_ : Int) (mask : Nat → B) (w : World) (hl : 4096 < l1.length ∨ 4096 < l2.length) : Calls Try.prog 6 #[.agg (seC key nonce (.slice A1 l1.length c1) (.slice A2 l2.length c2)), .agg (tuC wh at_ mask)] w fun e w' => e = .returned (.bool true) ∧ Below w.heap.size w w' := by
  have HS := Lib.hid ((Bx.start w key nonce (.slice A1 l1.length c1) (.slice A2 l2.length c2)).step ((Below.refl _ _).alloc (Nat.le_refl _) (.cells (tuC wh at_ mask) 39)))
  have q1 := HS.out.la
  have q2 := HS.out.lb
  by_cases g1 : l1.length ≤ 4096
  · have g1' : ¬ (l1.length : Int) > 4096 := by omega
    have g2' : (l2.length : Int) > 4096 := by omega
    go_enter Try.func6, Try.ntmps6
    go_wp2_with fail
    refine (works _).mono ?_
    rintro e w1 ⟨rfl, hb⟩
    replace HS := Lib.hid (HS.out.step hb)
    clear hb q1 q2
    go_wp2_with fail
    go_ret
    exact ⟨rfl, HS.out.below⟩
  · have g1' : (l1.length : Int) > 4096 := by omega
    go_enter Try.func6, Try.ntmps6
    go_wp2_with fail
    refine (works _).mono ?_
    rintro e w1 ⟨rfl, hb⟩
    replace HS := Lib.hid (HS.out.step hb)
    clear hb q1 q2
    go_wp2_with fail
    go_ret
    exact ⟨rfl, HS.out.below⟩
set_option maxRecDepth 100000 in
set_option maxHeartbeats 4000000 in
theorem law (key nonce : Nat → B) (A1 A2 : Option Addr) (c1 c2 : Nat) (l1 l2 : List Int) (wh at_ : Int) (mask : Nat → B) (w : World) (h1 : Txt w A1 c1 l1) (h2 : Txt w A2 c2 l2) (g1 : l1.length ≤ 4096) (g2 : l2.length ≤ 4096) : Calls Try.prog 6 #[.agg (seC key nonce (.slice A1 l1.length c1) (.slice A2 l2.length c2)), .agg (tuC wh at_ mask)] w fun e w' => e = .returned (.bool true) ∧ Below w.heap.size w w' := by
  obtain ⟨kc, E, hC⟩ := open_key key
  have HC := Lib.hid hC
  have HS := Lib.hid ((Se.start (key := key) (nonce := nonce) h1 h2).step ((Below.refl _ _).alloc (Nat.le_refl _) (.cells (tuC wh at_ mask) 39)))
  have HU := Lib.hid (Blk.Is.new (w.alloc (.cells (seC key nonce (.slice A1 l1.length c1) (.slice A2 l2.length c2)) 26)) (tuC wh at_ mask) 39)
  have e1 : (w.alloc (.cells (seC key nonce (.slice A1 l1.length c1) (.slice A2 l2.length c2)) 26)).heap.size = w.heap.size + 1 := by simp
  rw [e1] at HU
  have q1 := HS.out.la
  have q2 := HS.out.lb
  have HBY := Lib.hid h2.by_
  have HBY1 := Lib.hid h1.by_
  clear hC h1 h2 e1
  have HN1 := Lib.hid g1
  have HN2 := Lib.hid g2
  have g1' : ¬ (l1.length : Int) > 4096 := by omega
  have g2' : ¬ (l2.length : Int) > 4096 := by omega
  clear g1 g2
  obtain ⟨s, hs⟩ : ∃ s, s = sealL E nonce l1 l2 := ⟨_, rfl⟩
  have HSE := Lib.hid hs
  have HLN : Hid (s.length = l2.length + 16) := by show s.length = _; rw [hs]; exact seal_len _ _ _ _
  clear hs
  go_enter Try.func6, Try.ntmps6
  go_wp2_with fail
  clear g1' g2' q1 q2
  generalize (w.alloc (.cells (seC key nonce (.slice A1 l1.length c1) (.slice A2 l2.length c2)) 26)).alloc (.cells (tuC wh at_ mask) 39) = w0 at *
  refine start_ (n := 12) (S := fun w' => (Blk.ld 22 (.pointer (some ⟨w.heap.size, 0, none⟩))).run Try.prog w' = .ok (.agg (cB 32 key)) w' ∧ (Blk.ld 23 (.pointer (some ⟨w.heap.size, 32, none⟩))).run Try.prog w' = .ok (.agg (cB 12 nonce)) w' ∧ w'.cell? ⟨w.heap.size, 44, none⟩ = some (.slice A1 l1.length c1) ∧ w'.cell? ⟨w.heap.size, 45, none⟩ = some (.slice A2 l2.length c2)) (ds := []) #[false, false, false, false, false, false, false, false, false, false, false, false] (by kernel_rfl) rfl rfl ⟨HS.out.drew.lk, HS.out.drew.ln, HS.out.drew.la, HS.out.drew.lb⟩ (fun hHeld => ?_)
  replace HS := Lib.hid (HS.out.drew)
  replace HU := Lib.hid (HU.out.drew)
  generalize w0.drew = w1 at *
  refine pure_ (i := 0) (N := some 28) (v := ?_) (a' := ?_) #[true, false, false, false, false, false, false, false, false, false, false, false] rfl rfl (by kernel_rfl) (fun _ _ _ h => h) (Or.inl ⟨by rfl, ?_⟩) ?_ ?_
  rotate_left
  · intro w'
    go_simp
    with_reducible rfl
  rotate_left
  · simp only [Act.put, List.setIfInBounds_toArray, List.set_cons_zero, List.set_cons_succ, i64_w, i32_w]
    rfl
  refine pure_ (i := 2) (N := some 30) (v := ?_) (a' := ?_) #[true, false, true, false, false, false, false, false, false, false, false, false] rfl rfl (by kernel_rfl) (fun _ _ _ h => h) (Or.inl ⟨by rfl, ?_⟩) ?_ ?_
  rotate_left
  · intro w'
    go_simp
    with_reducible rfl
  rotate_left
  · simp only [Act.put, List.setIfInBounds_toArray, List.set_cons_zero, List.set_cons_succ, i64_w, i32_w]
    rfl
  refine pure_ (i := 4) (N := some 32) (v := ?_) (a' := ?_) #[true, false, true, false, true, false, false, false, false, false, false, false] rfl rfl (by kernel_rfl) (fun _ _ _ h => h) (Or.inl ⟨by rfl, ?_⟩) ?_ ?_
  rotate_left
  · intro w'
    go_simp
    with_reducible rfl
  rotate_left
  · simp only [Act.put, List.setIfInBounds_toArray, List.set_cons_zero, List.set_cons_succ, i64_w, i32_w]
    rfl
  refine pure_ (i := 7) (N := some 35) (v := ?_) (a' := ?_) #[true, false, true, false, true, false, false, true, false, false, false, false] rfl rfl (by kernel_rfl) (fun _ _ _ h => h) (Or.inl ⟨by rfl, ?_⟩) ?_ ?_
  rotate_left
  · intro w'
    go_simp
    with_reducible rfl
  rotate_left
  · simp only [Act.put, List.setIfInBounds_toArray, List.set_cons_zero, List.set_cons_succ, i64_w, i32_w]
    rfl
  refine take_ (i := 1) (N := some 29) (v := ?_) (a' := ?_) #[true, true, true, false, true, false, false, true, false, false, false, false] rfl rfl (by kernel_rfl) (fun _ _ _ h => h) (Or.inl ⟨by rfl, ?_⟩) hHeld ?_ ?_
  rotate_left
  · rintro w' ⟨s0, s1, s2, s3⟩
    go_simp
    with_reducible rfl
  rotate_left
  · simp only [Act.put, List.setIfInBounds_toArray, List.set_cons_zero, List.set_cons_succ, i64_w, i32_w]
    rfl
  refine take_ (i := 3) (N := some 31) (v := ?_) (a' := ?_) #[true, true, true, true, true, false, false, true, false, false, false, false] rfl rfl (by kernel_rfl) (fun _ _ _ h => h) (Or.inl ⟨by rfl, ?_⟩) hHeld ?_ ?_
  rotate_left
  · rintro w' ⟨s0, s1, s2, s3⟩
    go_simp
    with_reducible rfl
  rotate_left
  · simp only [Act.put, List.setIfInBounds_toArray, List.set_cons_zero, List.set_cons_succ, i64_w, i32_w]
    rfl
  refine take_ (i := 5) (N := some 33) (v := ?_) (a' := ?_) #[true, true, true, true, true, true, false, true, false, false, false, false] rfl rfl (by kernel_rfl) (fun _ _ _ h => h) (Or.inl ⟨by rfl, ?_⟩) hHeld ?_ ?_
  rotate_left
  · rintro w' ⟨s0, s1, s2, s3⟩
    go_simp
    with_reducible rfl
  rotate_left
  · simp only [Act.put, List.setIfInBounds_toArray, List.set_cons_zero, List.set_cons_succ, i64_w, i32_w]
    rfl
  refine take_ (i := 8) (N := some 36) (v := ?_) (a' := ?_) #[true, true, true, true, true, true, false, true, true, false, false, false] rfl rfl (by kernel_rfl) (fun _ _ _ h => h) (Or.inl ⟨by rfl, ?_⟩) hHeld ?_ ?_
  rotate_left
  · rintro w' ⟨s0, s1, s2, s3⟩
    go_simp
    with_reducible rfl
  rotate_left
  · simp only [Act.put, List.setIfInBounds_toArray, List.set_cons_zero, List.set_cons_succ, i64_w, i32_w]
    rfl
  refine one_ (i := 6) (N := some 34) #[true, true, true, true, true, true, true, true, true, false, false, false] rfl rfl (by kernel_rfl) (by decide) (fun K hK => ?_)
  refine goes_ Try.func17 (by kernel_rfl) rfl #[.slice A1 l1.length c1] (by rfl) rfl rfl (by simp only [List.map_toArray, List.map_cons, List.map_nil]; rfl) ?_
  with_reducible refine (copy_t HS.out.t1).mono ?_
  rintro e w2 ⟨A3, c3, rfl, hT3, _, hb⟩
  refine ⟨_, rfl, ?_⟩
  replace HS := Lib.hid (HS.out.step hb)
  replace HU := Lib.hid (HU.out.below hb HU.out.lt)
  have HT3 := Lib.hid hT3
  clear hT3 hb
  refine hK.out _ _ ⟨HS.out.lk, HS.out.ln, HS.out.la, HS.out.lb⟩ (fun hHeld => ?_)
  clear hK K
  refine norm_ (a' := ?_) ?_ ?_
  rotate_left
  · show Act.put _ (some 34) _ = _
    simp only [Act.put, List.setIfInBounds_toArray, List.set_cons_zero, List.set_cons_succ, i64_w, i32_w]
    rfl
  refine one_ (i := 9) (N := some 37) #[true, true, true, true, true, true, true, true, true, true, false, false] rfl rfl (by kernel_rfl) (by decide) (fun K hK => ?_)
  refine goes_ Try.func17 (by kernel_rfl) rfl #[.slice A2 l2.length c2] (by rfl) rfl rfl (by simp only [List.map_toArray, List.map_cons, List.map_nil]; rfl) ?_
  with_reducible refine (copy_t HS.out.t2).mono ?_
  rintro e w3 ⟨A4, c4, rfl, hT4, _, hb⟩
  refine ⟨_, rfl, ?_⟩
  replace HS := Lib.hid (HS.out.step hb)
  replace HU := Lib.hid (HU.out.below hb HU.out.lt)
  replace HT3 := Lib.hid (HT3.out.below hb)
  have HT4 := Lib.hid hT4
  clear hT4 hb
  refine hK.out _ _ ⟨HS.out.lk, HS.out.ln, HS.out.la, HS.out.lb⟩ (fun hHeld => ?_)
  clear hK K
  refine norm_ (a' := ?_) ?_ ?_
  rotate_left
  · show Act.put _ (some 37) _ = _
    simp only [Act.put, List.setIfInBounds_toArray, List.set_cons_zero, List.set_cons_succ, i64_w, i32_w]
    rfl
  refine one_ (i := 10) (N := some 38) #[true, true, true, true, true, true, true, true, true, true, true, false] rfl rfl (by kernel_rfl) (by decide) (fun K hK => ?_)
  refine goes_ Try.func10 (by kernel_rfl) rfl #[.agg (cB 32 key), .agg (cB 12 nonce), .slice A3 l1.length c3, .slice A4 l2.length c4] (by rfl) rfl rfl (by simp only [List.map_toArray, List.map_cons, List.map_nil]; rfl) ?_
  with_reducible refine (seal_t (nonce := nonce) HC.out HT3.out HT4.out (by have := HN1.out; omega) (by have := HN2.out; omega) s HSE.out).mono ?_
  rintro e w4 ⟨A5, c5, rfl, hT5, _, hb⟩
  refine ⟨_, rfl, ?_⟩
  replace HS := Lib.hid (HS.out.step hb)
  replace HU := Lib.hid (HU.out.below hb HU.out.lt)
  have HT5 := Lib.hid hT5
  clear hT5 hb HT3 HT4
  refine hK.out _ _ ⟨HS.out.lk, HS.out.ln, HS.out.la, HS.out.lb⟩ (fun hHeld => ?_)
  clear hK K
  refine norm_ (a' := ?_) ?_ ?_
  rotate_left
  · show Act.put _ (some 38) _ = _
    simp only [Act.put, List.setIfInBounds_toArray, List.set_cons_zero, List.set_cons_succ, i64_w, i32_w]
    rfl
  refine pure_ (i := 11) (N := some 5) (v := ?_) (a' := ?_) #[true, true, true, true, true, true, true, true, true, true, true, true] rfl rfl (by kernel_rfl) (fun _ _ _ h => h) (Or.inl ⟨by rfl, ?_⟩) ?_ ?_
  rotate_left
  · intro w'
    go_simp
    with_reducible rfl
  rotate_left
  · simp only [Act.put, List.setIfInBounds_toArray, List.set_cons_zero, List.set_cons_succ, i64_w, i32_w]
    rfl
  refine done_ (by kernel_rfl) ?_
  have q1 := HS.out.la
  have q2 := HS.out.lb
  have hs1 : IntKind.i64.wrap ((l2.length : Int) + 16) = (s.length : Int) := by rw [i64_w]; unfold wrap64; have := HN2.out; have := HLN.out; omega
  go_wp2_with fail
  clear hs1
  refine (copy_t HS.out.t1).mono ?_
  rintro e w5 ⟨A7, c7, rfl, hT7, _, hb⟩
  replace HS := Lib.hid (HS.out.step hb)
  replace HU := Lib.hid (HU.out.below hb HU.out.lt)
  replace HT5 := Lib.hid (HT5.out.below hb)
  have HT7 := Lib.hid hT7
  clear hT7 hb q1 q2
  have KS := HS
  have KU := HU
  have KT5 := HT5
  have KT7 := HT7
  have HGU : Hid (w.heap.size + 1 < w5.heap.size) := HU.out.lt
  have ln := HS.out.ln
  have hst := st12_new w5 nonce
  have HQ := Lib.hid (Blk.Is.new w5 (cB 12 nonce) 23)
  have hal := (Below.refl _ w5).alloc (Nat.le_refl _) (.cells (cB 12 nonce) 23)
  replace HS := Lib.hid (HS.out.step hal)
  replace HU := Lib.hid (HU.out.below hal HU.out.lt)
  replace HT5 := Lib.hid (HT5.out.below hal)
  replace HT7 := Lib.hid (HT7.out.below hal)
  have HGQ : Hid (w.heap.size + 1 < w5.heap.size) := HGU.out
  have HBW := Lib.hid hal
  have HBW6 := Lib.hid hal.size
  clear hal
  have qw := tu_where HU.out
  go_wp2_with fail
  clear hst ln qw
  generalize (w5.alloc (.cells (cB 12 nonce) 23)) = w6 at *
  generalize hgn : w5.heap.size = gn at *
  have HGN := Lib.hid hgn
  clear hgn
  obtain ⟨r, _, hr4, hmod⟩ := mod_t wh 4 (by decide)
  have hr := hr4 (by decide)
  clear hr4
  have HR4 := Lib.hid hr
  clear hr
  refine (hmod w6).mono ?_
  rintro e w7 ⟨rfl, hb⟩
  replace HS := Lib.hid (HS.out.step hb)
  replace HU := Lib.hid (HU.out.below hb HU.out.lt)
  replace HT5 := Lib.hid (HT5.out.below hb)
  replace HT7 := Lib.hid (HT7.out.below hb)
  replace HQ := Lib.hid (HQ.out.below hb HQ.out.lt)
  replace HBW := Lib.hid (HBW.out.trans (hb.mono HBW6.out))
  clear hb hmod
  have hr := HR4.out
  have hcase : r = 0 ∨ r = 1 ∨ r = 2 ∨ r = 3 := by omega
  clear hr HR4
  rcases hcase with rfl | rfl | rfl | rfl
  · skip
    have lm := tu_mask HU.out
    go_wp2_with fail
    refine (turned_calls mask A5 c5 s l2.length (by have := HN2.out; omega) w7 HT5.out).mono ?_
    rintro e w8 ⟨v8, rfl, hR, hb⟩
    replace HS := Lib.hid (HS.out.step hb)
    replace HU := Lib.hid (HU.out.below hb HU.out.lt)
    replace HT5 := Lib.hid (HT5.out.below hb)
    replace HT7 := Lib.hid (HT7.out.below hb)
    replace HQ := Lib.hid (HQ.out.below hb HQ.out.lt)
    obtain ⟨A8, c8, rfl, hT8⟩ := row_txt hR (turnN_by s HT5.out.by_ _ _ _) (by rw [turnN_len, HLN.out]; have := HN2.out; omega)
    have HT8 := Lib.hid hT8
    clear hT8 hR hb lm
    have HB0 : Hid (otherN s.length l2.length mask 16 = true → tagOk E nonce l1 (turnN s l2.length mask 16) l2.length = false) := fun h => bad_tag mask l2.length rfl s HSE.out h
    have HL8 : Hid ((turnN s l2.length mask 16).length = l2.length + 16) := by show (turnN s l2.length mask 16).length = _; rw [turnN_len, HLN.out]
    have HL9 : Hid (l1.length = l1.length) := rfl
    have HT9 := HT7
    generalize otherN s.length l2.length mask 16 = d at *
    generalize turnN s l2.length mask 16 = s8 at *
    cases d with
    | false =>
      have lk := HS.out.lk
      go_wp2_with fail
      refine (HC.out.rexp _).mono ?_
      rintro e wa ⟨rfl, hb⟩
      replace HS := Lib.hid (HS.out.step hb)
      replace HT8 := Lib.hid (HT8.out.below hb)
      replace HT9 := Lib.hid (HT9.out.below hb)
      replace HQ := Lib.hid (HQ.out.below hb HQ.out.lt)
      clear hb lk
      have hb37 := bd_zero37
      go_wp2_with fail
      refine (HC.out.rblock z16 wa).mono ?_
      rintro e wb ⟨rfl, hb⟩
      replace HS := Lib.hid (HS.out.step hb)
      replace HT8 := Lib.hid (HT8.out.below hb)
      replace HT9 := Lib.hid (HT9.out.below hb)
      replace HQ := Lib.hid (HQ.out.below hb HQ.out.lt)
      clear hb
      obtain ⟨hh, hhe⟩ : ∃ hh, hh = E z16 := ⟨_, rfl⟩
      rw [← hhe]
      have HHE := Lib.hid hhe
      clear hhe
      have hst := st_new wb hh
      have HZ := Lib.hid (Blk.Is.new wb (cB 16 hh) 37)
      have hal := (Below.refl _ wb).alloc (Nat.le_refl _) (.cells (cB 16 hh) 37)
      replace HS := Lib.hid (HS.out.step hal)
      replace HT8 := Lib.hid (HT8.out.below hal)
      replace HT9 := Lib.hid (HT9.out.below hal)
      replace HQ := Lib.hid (HQ.out.below hal HQ.out.lt)
      clear hal
      obtain ⟨hz, hze⟩ : ∃ hz, hz = eq16 hh z16 := ⟨_, rfl⟩
      have hq : ∀ W, (eqq 37 (.agg (cB 16 hh)) (.agg (cB 16 z16))).run Try.prog W = .ok (.bool hz) W := fun W => by rw [hze]; exact eqq_run hh z16 W
      have HZE := Lib.hid hze
      clear hze
      have hgt := guard_type
      have lz := ld16_is HZ.out
      go_wp2_with fail
      refine (works _).mono ?_
      rintro e wd ⟨rfl, hb⟩
      replace HS := Lib.hid (HS.out.step hb)
      go_wp2_with fail
      go_ret
      exact ⟨rfl, HS.out.below⟩
    | true =>
      have HBAD := Lib.hid (HB0.out rfl)
      clear HB0
      have lk := HS.out.lk
      go_wp2_with fail
      refine (HC.out.rexp _).mono ?_
      rintro e wa ⟨rfl, hb⟩
      replace HS := Lib.hid (HS.out.step hb)
      replace HT8 := Lib.hid (HT8.out.below hb)
      replace HT9 := Lib.hid (HT9.out.below hb)
      replace HQ := Lib.hid (HQ.out.below hb HQ.out.lt)
      clear hb lk
      have hb37 := bd_zero37
      go_wp2_with fail
      refine (HC.out.rblock z16 wa).mono ?_
      rintro e wb ⟨rfl, hb⟩
      replace HS := Lib.hid (HS.out.step hb)
      replace HT8 := Lib.hid (HT8.out.below hb)
      replace HT9 := Lib.hid (HT9.out.below hb)
      replace HQ := Lib.hid (HQ.out.below hb HQ.out.lt)
      clear hb
      obtain ⟨hh, hhe⟩ : ∃ hh, hh = E z16 := ⟨_, rfl⟩
      rw [← hhe]
      have HHE := Lib.hid hhe
      clear hhe
      have hst := st_new wb hh
      have HZ := Lib.hid (Blk.Is.new wb (cB 16 hh) 37)
      have hal := (Below.refl _ wb).alloc (Nat.le_refl _) (.cells (cB 16 hh) 37)
      replace HS := Lib.hid (HS.out.step hal)
      replace HT8 := Lib.hid (HT8.out.below hal)
      replace HT9 := Lib.hid (HT9.out.below hal)
      replace HQ := Lib.hid (HQ.out.below hal HQ.out.lt)
      clear hal
      obtain ⟨hz, hze⟩ : ∃ hz, hz = eq16 hh z16 := ⟨_, rfl⟩
      have hq : ∀ W, (eqq 37 (.agg (cB 16 hh)) (.agg (cB 16 z16))).run Try.prog W = .ok (.bool hz) W := fun W => by rw [hze]; exact eqq_run hh z16 W
      have HZE := Lib.hid hze
      clear hze
      have hgt := guard_type
      have lz := ld16_is HZ.out
      have hop := open_t (nonce := nonce) HC.out HT9.out HT8.out l2.length HL8.out (by have := HL9.out; have := HN1.out; omega) (by have := HN2.out; omega) false (HBAD.out).symm [] rfl 60 rfl
      have lk := HS.out.lk
      have lq := ld12_is HQ.out
      go_wp2_with fail
      refine (hop).mono ?_
      rintro e wc ⟨Ap, cp, rfl, _, _, hb⟩
      replace HS := Lib.hid (HS.out.step hb)
      clear hb hop lk lq
      go_wp2_with fail
      refine (works wc).mono ?_
      rintro e wd ⟨rfl, hb⟩
      replace HS := Lib.hid (HS.out.step hb)
      go_wp2_with fail
      go_ret
      exact ⟨rfl, HS.out.below⟩
  · skip
    rw [← xorN_zero nonce mask] at HQ
    go_wp2_with fail
    go_loopw [9, 11, 82, 83, 84, 85, 86, 87, 88, 89, 90, 91, 92, 93, 94, 95, 96, 97, 98, 99, 100, 101, 102, 103] (fun v9 v11 v82 v83 v84 v85 v86 v87 v88 v89 v90 v91 v92 v93 v94 v95 v96 v97 v98 v99 v100 v101 v102 v103 wr => ∃ (i : Nat), i ≤ 12 ∧ v11 = .int .i64 (i : Int) ∧ v9 = .bool (otherN 12 0 mask i) ∧ Hid (Below gn w5 wr) ∧ Hid (Blk.Is wr gn (cB 12 (xorN nonce mask i)) 23)) (fun _ v11 _ _ _ _ _ _ _ _ _ _ _ _ _ _ _ _ _ _ _ _ _ _ _ => 12 - (intOf v11).toNat)
    case atStart => exact ⟨0, Nat.zero_le _, rfl, rfl, HBW, HQ⟩
    case round =>
      clear HBW HQ HS HT5 HT7 HU
      obtain ⟨i, hi, rfl, rfl, HBW, HQ⟩ := hrel
      obtain ⟨wo, rfl⟩ : ∃ wo, wo = wr := ⟨_, rfl⟩
      have HU := Lib.hid (KU.out.below HBW.out (by rw [← HGN.out]; exact KU.out.lt))
      by_cases hlt : i < 12
      · have HI := Lib.hid hlt
        have q0 : wo.cell? ⟨gn, i, none⟩ = some (.int .u8 (ofB (nonce i))) := by
          rw [HQ.out.cell, cB_get 12 _ _ hlt]
          unfold xorN
          rw [if_neg (by omega)]
        have f0 := HQ.out.free i
        have m0 := tu_cell HU.out i (by omega)
        have hx : Go.bits .xor .u8 (ofB (nonce i)) (ofB (mask i)) = ofB (nonce i ^^^ mask i) := bits_xor _ _
        have HNX := Lib.hid (xorN_succ nonce mask i)
        have HON : Hid (otherN 12 0 mask (i + 1) = (otherN 12 0 mask i || (ofB (mask i) != 0))) := by
          show (otherN 12 0 mask i || (decide (0 + i < 12) && (ofB (mask i) != 0))) = _
          rw [decide_eq_true (show 0 + i < 12 by omega), Bool.true_and]
        have hltI : (i : Int) < 12 := by omega
        generalize otherN 12 0 mask i = di at *
        generalize nonce i ^^^ mask i = nx at *
        go_wp2_with fail
        go_region
        clear q0 f0 hx
        have HB5 := Lib.hid ((HBW.out.setCell (p := ⟨gn, i, none⟩) (Nat.le_refl gn) (.int .u8 (ofB nx))).drew)
        have hq := (HQ.out.set i (.int .u8 (ofB nx))).drew
        rw [cB_set, HNX.out] at hq
        have HQ5 := Lib.hid hq
        clear hq HQ HBW m0 HU
        generalize (wo.setCell ⟨gn, i, none⟩ (.int .u8 (ofB nx))).drew = w9 at *
        have HU := Lib.hid (KU.out.below HB5.out (by rw [← HGN.out]; exact KU.out.lt))
        have m0 := tu_cell HU.out i (by have := HI.out; omega)
        cases di with
        | true =>
          go_wp2_with fail
          go_roundw
          case rel => exact ⟨i + 1, by have := HI.out; omega, by go_num, by rw [HON.out]; rfl, HB5, HQ5⟩
          case measure => have := HI.out; simp [intOf]; omega
        | false =>
          go_wp2_with fail
          go_roundw
          case rel => exact ⟨i + 1, by have := HI.out; omega, by go_num, by rw [HON.out, Bool.false_or], HB5, HQ5⟩
          case measure => have := HI.out; simp [intOf]; omega
      · have hi12 : i = 12 := by omega
        subst hi12
        have hbw : Below w5.heap.size w5 wo := by rw [HGN.out]; exact HBW.out
        have HS := Lib.hid (KS.out.step hbw)
        have HT8 := Lib.hid (KT5.out.below hbw)
        have HT9 := Lib.hid (KT7.out.below hbw)
        clear hbw HU
        have HB0 : Hid (otherN 12 0 mask 12 = true → tagOk E (xorN nonce mask 12) l1 s l2.length = false) := fun h => by rw [HSE.out]; exact bad_nonce HC.out.inj mask h
        have HL8 := HLN
        have HL9 : Hid (l1.length = l1.length) := rfl
        generalize otherN 12 0 mask 12 = d at *
        generalize xorN nonce mask 12 = nn at *
        cases d with
        | false =>
          have lk := HS.out.lk
          go_wp2_with fail
          refine (HC.out.rexp _).mono ?_
          rintro e wa ⟨rfl, hb⟩
          replace HS := Lib.hid (HS.out.step hb)
          replace HT8 := Lib.hid (HT8.out.below hb)
          replace HT9 := Lib.hid (HT9.out.below hb)
          replace HQ := Lib.hid (HQ.out.below hb HQ.out.lt)
          clear hb lk
          have hb37 := bd_zero37
          go_wp2_with fail
          refine (HC.out.rblock z16 wa).mono ?_
          rintro e wb ⟨rfl, hb⟩
          replace HS := Lib.hid (HS.out.step hb)
          replace HT8 := Lib.hid (HT8.out.below hb)
          replace HT9 := Lib.hid (HT9.out.below hb)
          replace HQ := Lib.hid (HQ.out.below hb HQ.out.lt)
          clear hb
          obtain ⟨hh, hhe⟩ : ∃ hh, hh = E z16 := ⟨_, rfl⟩
          rw [← hhe]
          have HHE := Lib.hid hhe
          clear hhe
          have hst := st_new wb hh
          have HZ := Lib.hid (Blk.Is.new wb (cB 16 hh) 37)
          have hal := (Below.refl _ wb).alloc (Nat.le_refl _) (.cells (cB 16 hh) 37)
          replace HS := Lib.hid (HS.out.step hal)
          replace HT8 := Lib.hid (HT8.out.below hal)
          replace HT9 := Lib.hid (HT9.out.below hal)
          replace HQ := Lib.hid (HQ.out.below hal HQ.out.lt)
          clear hal
          obtain ⟨hz, hze⟩ : ∃ hz, hz = eq16 hh z16 := ⟨_, rfl⟩
          have hq : ∀ W, (eqq 37 (.agg (cB 16 hh)) (.agg (cB 16 z16))).run Try.prog W = .ok (.bool hz) W := fun W => by rw [hze]; exact eqq_run hh z16 W
          have HZE := Lib.hid hze
          clear hze
          have hgt := guard_type
          have lz := ld16_is HZ.out
          go_wp2_with fail
          refine (works _).mono ?_
          rintro e wd ⟨rfl, hb⟩
          replace HS := Lib.hid (HS.out.step hb)
          go_wp2_with fail
          go_ret
          exact ⟨rfl, HS.out.below⟩
        | true =>
          have HBAD := Lib.hid (HB0.out rfl)
          clear HB0
          have lk := HS.out.lk
          go_wp2_with fail
          refine (HC.out.rexp _).mono ?_
          rintro e wa ⟨rfl, hb⟩
          replace HS := Lib.hid (HS.out.step hb)
          replace HT8 := Lib.hid (HT8.out.below hb)
          replace HT9 := Lib.hid (HT9.out.below hb)
          replace HQ := Lib.hid (HQ.out.below hb HQ.out.lt)
          clear hb lk
          have hb37 := bd_zero37
          go_wp2_with fail
          refine (HC.out.rblock z16 wa).mono ?_
          rintro e wb ⟨rfl, hb⟩
          replace HS := Lib.hid (HS.out.step hb)
          replace HT8 := Lib.hid (HT8.out.below hb)
          replace HT9 := Lib.hid (HT9.out.below hb)
          replace HQ := Lib.hid (HQ.out.below hb HQ.out.lt)
          clear hb
          obtain ⟨hh, hhe⟩ : ∃ hh, hh = E z16 := ⟨_, rfl⟩
          rw [← hhe]
          have HHE := Lib.hid hhe
          clear hhe
          have hst := st_new wb hh
          have HZ := Lib.hid (Blk.Is.new wb (cB 16 hh) 37)
          have hal := (Below.refl _ wb).alloc (Nat.le_refl _) (.cells (cB 16 hh) 37)
          replace HS := Lib.hid (HS.out.step hal)
          replace HT8 := Lib.hid (HT8.out.below hal)
          replace HT9 := Lib.hid (HT9.out.below hal)
          replace HQ := Lib.hid (HQ.out.below hal HQ.out.lt)
          clear hal
          obtain ⟨hz, hze⟩ : ∃ hz, hz = eq16 hh z16 := ⟨_, rfl⟩
          have hq : ∀ W, (eqq 37 (.agg (cB 16 hh)) (.agg (cB 16 z16))).run Try.prog W = .ok (.bool hz) W := fun W => by rw [hze]; exact eqq_run hh z16 W
          have HZE := Lib.hid hze
          clear hze
          have hgt := guard_type
          have lz := ld16_is HZ.out
          have hop := open_t (nonce := nn) HC.out HT9.out HT8.out l2.length HL8.out (by have := HL9.out; have := HN1.out; omega) (by have := HN2.out; omega) false (HBAD.out).symm [] rfl 60 rfl
          have lk := HS.out.lk
          have lq := ld12_is HQ.out
          go_wp2_with fail
          refine (hop).mono ?_
          rintro e wc ⟨Ap, cp, rfl, _, _, hb⟩
          replace HS := Lib.hid (HS.out.step hb)
          clear hb hop lk lq
          go_wp2_with fail
          refine (works wc).mono ?_
          rintro e wd ⟨rfl, hb⟩
          replace HS := Lib.hid (HS.out.step hb)
          go_wp2_with fail
          go_ret
          exact ⟨rfl, HS.out.below⟩
  · skip
    obtain ⟨ad5, rfl, _⟩ := txt_cell HT5.out 0 (by rw [HLN.out]; omega)
    have hnl : l2.length ≤ s.length := by rw [HLN.out]; omega
    have hle := HT5.out.le
    have hnc : l2.length ≤ c5 := by omega
    have hcn : ¬ c5 = l2.length := by have := HLN.out; omega
    have hln16 : s.length - l2.length = 16 := by have := HLN.out; omega
    have HTK := Lib.hid (HT5.out.take l2.length hnl)
    have HTKL : Hid ((s.take l2.length).length = l2.length) := by show (s.take l2.length).length = _; rw [List.length_take]; omega
    obtain ⟨k, hk⟩ : ∃ k : Nat, k = (l2.length + 15) / 16 := ⟨_, rfl⟩
    have hn := HN2.out
    obtain ⟨r, hr0, hr1, hmod⟩ := mod_t at_ k (by omega)
    obtain ⟨f, hf⟩ : ∃ f : Nat, f = 16 * r := ⟨_, rfl⟩
    have hfb : f < 200000 := by by_cases h0 : k = 0 <;> omega
    have HF := Lib.hid hf
    have HFB := Lib.hid hfb
    have HMOD := Lib.hid hmod
    have hqd : Int.tdiv ((l2.length : Int) + 15) 16 = (k : Int) := by rw [Int.tdiv_eq_ediv_of_nonneg (by omega)]; omega
    have hw15 : wrap64 ((l2.length : Int) + 15) = (l2.length : Int) + 15 := by unfold wrap64; omega
    have hw16 : IntKind.i64.wrap ((l2.length : Int) + 15) = (l2.length : Int) + 15 := by rw [i64_w]; exact hw15
    have hwk : wrap64 (k : Int) = (k : Int) := by unfold wrap64; omega
    have hwk2 : IntKind.i64.wrap (k : Int) = (k : Int) := by rw [i64_w]; exact hwk
    have hmul : wrap64 (16 * (r : Int)) = (f : Int) := by unfold wrap64; omega
    have hmul2 : IntKind.i64.wrap (16 * (r : Int)) = (f : Int) := by rw [i64_w]; exact hmul
    clear hk hr0 hr1 hmod hf hfb
    go_wp2_with fail
    refine start_ (n := 18) (S := fun w' => w'.cell? ⟨w.heap.size + 1, 1, none⟩ = some (.int .i64 at_) ∧ (Blk.ld 37 (.pointer (some ⟨w.heap.size + 1, 2, none⟩))).run Try.prog w' = .ok (.agg (cB 16 mask)) w') (ds := []) #[false, false, false, false, false, false, false, false, false, false, false, false, false, false, false, false, false, false] (by kernel_rfl) rfl rfl ⟨(tu_at HU.out.drew), (tu_mask HU.out.drew)⟩ (fun hHeld => ?_)
    replace HS := Lib.hid (HS.out.drew)
    replace HU := Lib.hid (HU.out.drew)
    replace HT5 := Lib.hid (HT5.out.below (Below.refl _ _).drew)
    replace HT7 := Lib.hid (HT7.out.below (Below.refl _ _).drew)
    replace HQ := Lib.hid (HQ.out.drew)
    replace HTK := Lib.hid (HTK.out.below (Below.refl _ _).drew)
    generalize w7.drew = w8 at *
    refine pure_ (i := 0) (N := some 107) (v := ?_) (a' := ?_) #[true, false, false, false, false, false, false, false, false, false, false, false, false, false, false, false, false, false] rfl rfl (by kernel_rfl) (fun _ _ _ h => h) (Or.inl ⟨by rfl, ?_⟩) ?_ ?_
    rotate_left
    · intro w'
      go_simp
      with_reducible rfl
    rotate_left
    · simp only [Act.put, List.setIfInBounds_toArray, List.set_cons_zero, List.set_cons_succ, i64_w, i32_w]
      rfl
    refine pure_ (i := 1) (N := some 108) (v := ?_) (a' := ?_) #[true, true, false, false, false, false, false, false, false, false, false, false, false, false, false, false, false, false] rfl rfl (by kernel_rfl) (fun _ _ _ h => h) (Or.inl ⟨by rfl, ?_⟩) ?_ ?_
    rotate_left
    · intro w'
      go_simp
      with_reducible rfl
    rotate_left
    · simp only [Act.put, List.setIfInBounds_toArray, List.set_cons_zero, List.set_cons_succ, i64_w, i32_w]
      rfl
    refine pure_ (i := 2) (N := some 109) (v := ?_) (a' := ?_) #[true, true, true, false, false, false, false, false, false, false, false, false, false, false, false, false, false, false] rfl rfl (by kernel_rfl) (fun _ _ _ h => h) (Or.inl ⟨by rfl, ?_⟩) ?_ ?_
    rotate_left
    · intro w'
      go_simp
      with_reducible rfl
    rotate_left
    · simp only [Act.put, List.setIfInBounds_toArray, List.set_cons_zero, List.set_cons_succ, i64_w, i32_w]
      rfl
    refine pure_ (i := 3) (N := some 110) (v := ?_) (a' := ?_) #[true, true, true, true, false, false, false, false, false, false, false, false, false, false, false, false, false, false] rfl rfl (by kernel_rfl) (fun _ _ _ h => h) (Or.inl ⟨by rfl, ?_⟩) ?_ ?_
    rotate_left
    · intro w'
      go_simp
      with_reducible rfl
    rotate_left
    · simp only [Act.put, List.setIfInBounds_toArray, List.set_cons_zero, List.set_cons_succ, i64_w, i32_w]
      rfl
    refine pure_ (i := 5) (N := some 112) (v := ?_) (a' := ?_) #[true, true, true, true, false, true, false, false, false, false, false, false, false, false, false, false, false, false] rfl rfl (by kernel_rfl) (fun _ _ _ h => h) (Or.inl ⟨by rfl, ?_⟩) ?_ ?_
    rotate_left
    · intro w'
      go_simp
      with_reducible rfl
    rotate_left
    · simp only [Act.put, List.setIfInBounds_toArray, List.set_cons_zero, List.set_cons_succ, i64_w, i32_w]
      rfl
    refine pure_ (i := 6) (N := some 113) (v := ?_) (a' := ?_) #[true, true, true, true, false, true, true, false, false, false, false, false, false, false, false, false, false, false] rfl rfl (by kernel_rfl) (fun _ _ _ h => h) (Or.inl ⟨by rfl, ?_⟩) ?_ ?_
    rotate_left
    · intro w'
      go_simp
      with_reducible rfl
    rotate_left
    · simp only [Act.put, List.setIfInBounds_toArray, List.set_cons_zero, List.set_cons_succ, i64_w, i32_w]
      rfl
    refine pure_ (i := 7) (N := some 114) (v := ?_) (a' := ?_) #[true, true, true, true, false, true, true, true, false, false, false, false, false, false, false, false, false, false] rfl rfl (by kernel_rfl) (fun _ _ _ h => h) (Or.inl ⟨by rfl, ?_⟩) ?_ ?_
    rotate_left
    · intro w'
      go_simp
      with_reducible rfl
    rotate_left
    · simp only [Act.put, List.setIfInBounds_toArray, List.set_cons_zero, List.set_cons_succ, i64_w, i32_w]
      rfl
    refine pure_ (i := 10) (N := some 117) (v := ?_) (a' := ?_) #[true, true, true, true, false, true, true, true, false, false, true, false, false, false, false, false, false, false] rfl rfl (by kernel_rfl) (fun _ _ _ h => h) (Or.inl ⟨by rfl, ?_⟩) ?_ ?_
    rotate_left
    · intro w'
      go_simp
      with_reducible rfl
    rotate_left
    · simp only [Act.put, List.setIfInBounds_toArray, List.set_cons_zero, List.set_cons_succ, i64_w, i32_w]
      rfl
    refine take_ (i := 4) (N := some 111) (v := ?_) (a' := ?_) #[true, true, true, true, true, true, true, true, false, false, true, false, false, false, false, false, false, false] rfl rfl (by kernel_rfl) (fun _ _ _ h => h) (Or.inl ⟨by rfl, ?_⟩) hHeld ?_ ?_
    rotate_left
    · rintro w' ⟨s0, s1⟩
      go_simp
      with_reducible rfl
    rotate_left
    · simp only [Act.put, List.setIfInBounds_toArray, List.set_cons_zero, List.set_cons_succ, i64_w, i32_w]
      rfl
    refine take_ (i := 11) (N := some 118) (v := ?_) (a' := ?_) #[true, true, true, true, true, true, true, true, false, false, true, true, false, false, false, false, false, false] rfl rfl (by kernel_rfl) (fun _ _ _ h => h) (Or.inl ⟨by rfl, ?_⟩) hHeld ?_ ?_
    rotate_left
    · rintro w' ⟨s0, s1⟩
      go_simp
      with_reducible rfl
    rotate_left
    · simp only [Act.put, List.setIfInBounds_toArray, List.set_cons_zero, List.set_cons_succ, i64_w, i32_w]
      rfl
    refine one_ (i := 8) (N := some 115) #[true, true, true, true, true, true, true, true, true, false, true, true, false, false, false, false, false, false] rfl rfl (by kernel_rfl) (by decide) (fun K hK => ?_)
    refine goes_ Try.func18 (by kernel_rfl) rfl #[.int .i64 at_, .int .i64 (k : Int)] (by rfl) rfl rfl (by simp only [List.map_toArray, List.map_cons, List.map_nil]; rfl) ?_
    with_reducible refine (HMOD.out w8).mono ?_
    rintro e w9 ⟨rfl, hb⟩
    refine ⟨_, rfl, ?_⟩
    replace HS := Lib.hid (HS.out.step hb)
    replace HU := Lib.hid (HU.out.below hb HU.out.lt)
    replace HT5 := Lib.hid (HT5.out.below hb)
    replace HT7 := Lib.hid (HT7.out.below hb)
    replace HQ := Lib.hid (HQ.out.below hb HQ.out.lt)
    replace HTK := Lib.hid (HTK.out.below hb)
    clear hb
    refine hK.out _ _ ⟨(tu_at HU.out), (tu_mask HU.out)⟩ (fun hHeld => ?_)
    clear hK K
    refine norm_ (a' := ?_) ?_ ?_
    rotate_left
    · show Act.put _ (some 115) _ = _
      simp only [Act.put, List.setIfInBounds_toArray, List.set_cons_zero, List.set_cons_succ, i64_w, i32_w]
      rfl
    refine pure_ (i := 9) (N := some 116) (v := ?_) (a' := ?_) #[true, true, true, true, true, true, true, true, true, true, true, true, false, false, false, false, false, false] rfl rfl (by kernel_rfl) (fun _ _ _ h => h) (Or.inl ⟨by rfl, ?_⟩) ?_ ?_
    rotate_left
    · intro w'
      go_simp
      with_reducible rfl
    rotate_left
    · simp only [Act.put, List.setIfInBounds_toArray, List.set_cons_zero, List.set_cons_succ, i64_w, i32_w]
      rfl
    refine one_ (i := 12) (N := some 119) #[true, true, true, true, true, true, true, true, true, true, true, true, true, false, false, false, false, false] rfl rfl (by kernel_rfl) (by decide) (fun K hK => ?_)
    have KS9 := HS
    have KT79 := HT7
    have KQ9 := HQ
    have htu := turned_calls mask (some ad5) c5 (s.take l2.length) f HFB.out w9 HTK.out
    rw [HTKL.out] at htu
    refine goes_ Try.func19 (by kernel_rfl) rfl #[.slice (some ad5) l2.length c5, .int .i64 (f : Int), .agg (cB 16 mask)] (by rfl) rfl rfl (by simp only [List.map_toArray, List.map_cons, List.map_nil]; rfl) ?_
    with_reducible refine (htu).mono ?_
    rintro e wt ⟨v8, rfl, hR, hb⟩
    refine ⟨_, rfl, ?_⟩
    replace HS := Lib.hid (HS.out.step hb)
    replace HU := Lib.hid (HU.out.below hb HU.out.lt)
    replace HT5 := Lib.hid (HT5.out.below hb)
    replace HT7 := Lib.hid (HT7.out.below hb)
    replace HQ := Lib.hid (HQ.out.below hb HQ.out.lt)
    replace HTK := Lib.hid (HTK.out.below hb)
    have HSZ9 := Lib.hid hb.size
    have HB9 := Lib.hid hb
    clear hb htu
    have HR8 : Hid (Row.Is wt w9.heap.size v8 (turnN (s.take l2.length) f mask 16)) := hR
    clear hR
    obtain ⟨A8, c8, rfl, _⟩ := HR8.out.reads
    have hl8 : (turnN (s.take l2.length) f mask 16).length = l2.length := by rw [turnN_len, HTKL.out]
    rw [hl8] at HR8 ⊢
    have HL80 := Lib.hid hl8
    clear hl8
    refine hK.out _ _ ⟨(tu_at HU.out), (tu_mask HU.out)⟩ (fun hHeld => ?_)
    clear hK K
    refine norm_ (a' := ?_) ?_ ?_
    rotate_left
    · show Act.put _ (some 119) _ = _
      simp only [Act.put, List.setIfInBounds_toArray, List.set_cons_zero, List.set_cons_succ, i64_w, i32_w]
      rfl
    refine pure_ (i := 13) (N := some 106) (v := ?_) (a' := ?_) #[true, true, true, true, true, true, true, true, true, true, true, true, true, true, false, false, false, false] rfl rfl (by kernel_rfl) (fun _ _ _ h => h) (Or.inl ⟨by rfl, ?_⟩) ?_ ?_
    rotate_left
    · intro w'
      go_simp
      with_reducible rfl
    rotate_left
    · simp only [Act.put, List.setIfInBounds_toArray, List.set_cons_zero, List.set_cons_succ, i64_w, i32_w]
      rfl
    refine pure_ (i := 14) (N := some 120) (v := ?_) (a' := ?_) #[true, true, true, true, true, true, true, true, true, true, true, true, true, true, true, false, false, false] rfl rfl (by kernel_rfl) (fun _ _ _ h => h) (Or.inl ⟨by rfl, ?_⟩) ?_ ?_
    rotate_left
    · intro w'
      go_simp
      with_reducible rfl
    rotate_left
    · simp only [Act.put, List.setIfInBounds_toArray, List.set_cons_zero, List.set_cons_succ, i64_w, i32_w]
      rfl
    refine pure_ (i := 15) (N := some 121) (v := ?_) (a' := ?_) #[true, true, true, true, true, true, true, true, true, true, true, true, true, true, true, true, false, false] rfl rfl (by kernel_rfl) (fun _ _ _ h => h) (Or.inl ⟨by rfl, ?_⟩) ?_ ?_
    rotate_left
    · intro w'
      go_simp
      with_reducible rfl
    rotate_left
    · simp only [Act.put, List.setIfInBounds_toArray, List.set_cons_zero, List.set_cons_succ, i64_w, i32_w]
      rfl
    refine pure_ (i := 16) (N := some 12) (v := ?_) (a' := ?_) #[true, true, true, true, true, true, true, true, true, true, true, true, true, true, true, true, true, false] rfl rfl (by kernel_rfl) (fun _ _ _ h => h) (Or.inl ⟨by rfl, ?_⟩) ?_ ?_
    rotate_left
    · intro w'
      go_simp
      with_reducible rfl
    rotate_left
    · simp only [Act.put, List.setIfInBounds_toArray, List.set_cons_zero, List.set_cons_succ, i64_w, i32_w]
      rfl
    refine pure_ (i := 17) (N := some 13) (v := ?_) (a' := ?_) #[true, true, true, true, true, true, true, true, true, true, true, true, true, true, true, true, true, true] rfl rfl (by kernel_rfl) (fun _ _ _ h => h) (Or.inl ⟨by rfl, ?_⟩) ?_ ?_
    rotate_left
    · intro w'
      go_simp
      with_reducible rfl
    rotate_left
    · simp only [Act.put, List.setIfInBounds_toArray, List.set_cons_zero, List.set_cons_succ, i64_w, i32_w]
      rfl
    refine done_ (by kernel_rfl) ?_
    clear hqd hwk hmul hw15 hw16 hwk2 hmul2
    have HHT : Hid (otherN l2.length f mask 16 = true → blkW (E z16) ≠ 0#128 → tagOk E nonce l1 (turnN (s.take l2.length) f mask 16 ++ s.drop l2.length) l2.length = false) := by
      intro h hH
      have hfe := HF.out
      rw [hfe] at h ⊢
      exact bad_text hH mask r l2.length rfl s HSE.out h
    have HB0 := HHT
    clear HHT
    have HTTB : Hid (∀ x ∈ turnN (s.take l2.length) f mask 16, 0 ≤ x ∧ x < 256) := turnN_by _ (fun x hx => HT5.out.by_ x (List.mem_of_mem_take hx)) _ _ _
    generalize otherN l2.length f mask 16 = d at *
    generalize turnN (s.take l2.length) f mask 16 = tt at *
    have HDR := Lib.hid (HT5.out.drop l2.length (by have := HLN.out; omega))
    have HDL : Hid ((s.drop l2.length).length = 16) := by show (s.drop l2.length).length = 16; rw [List.length_drop]; exact hln16
    have HGB : Hid (w9.heap.size ≤ wt.heap.size) := HSZ9.out
    have hlen : tt.length + (s.drop l2.length).length ≤ 100000000000000 := by rw [HL80.out, HDL.out]; have := HN2.out; omega
    go_wp2_with (refine Row.appendRow w9.heap.size _ _ _ tt _ _ _ (s.drop l2.length) rfl rfl rfl rfl (by rw [HDL.out]) (by have h := HR8.out; exact h) HDR.out HGB.out hlen ?_; intro v1 wu q1 q2 q3 q4)
    have hbt := HB9.out.trans q2
    have HS := Lib.hid (KS9.out.step hbt)
    have HT9 := Lib.hid (KT79.out.below hbt)
    have HQ := Lib.hid (KQ9.out.below hbt KQ9.out.lt)
    obtain ⟨Aq, cq, rfl, hT8⟩ := row_txt q1 (fun x hx => by rcases List.mem_append.1 hx with h | h; exact HTTB.out x h; exact HT5.out.by_ x (List.mem_of_mem_drop h)) (by rw [List.length_append, HL80.out, HDL.out]; have := HN2.out; omega)
    have HT8 := Lib.hid hT8
    have HL8 : Hid ((tt ++ s.drop l2.length).length = l2.length + 16) := by show (tt ++ s.drop l2.length).length = _; rw [List.length_append, HL80.out, HDL.out]
    have HL9 : Hid (l1.length = l1.length) := rfl
    clear hbt hT8 q1 q2 q3 q4 hcn hln16 hnl hnc hle hlen HDR HDL HR8 HL80
    generalize tt ++ s.drop l2.length = s8 at *
    cases d with
    | false =>
      have lk := HS.out.lk
      go_wp2_with fail
      refine (HC.out.rexp _).mono ?_
      rintro e wa ⟨rfl, hb⟩
      replace HS := Lib.hid (HS.out.step hb)
      replace HT8 := Lib.hid (HT8.out.below hb)
      replace HT9 := Lib.hid (HT9.out.below hb)
      replace HQ := Lib.hid (HQ.out.below hb HQ.out.lt)
      clear hb lk
      have hb37 := bd_zero37
      go_wp2_with fail
      refine (HC.out.rblock z16 wa).mono ?_
      rintro e wb ⟨rfl, hb⟩
      replace HS := Lib.hid (HS.out.step hb)
      replace HT8 := Lib.hid (HT8.out.below hb)
      replace HT9 := Lib.hid (HT9.out.below hb)
      replace HQ := Lib.hid (HQ.out.below hb HQ.out.lt)
      clear hb
      obtain ⟨hh, hhe⟩ : ∃ hh, hh = E z16 := ⟨_, rfl⟩
      rw [← hhe]
      have HHE := Lib.hid hhe
      clear hhe
      have hst := st_new wb hh
      have HZ := Lib.hid (Blk.Is.new wb (cB 16 hh) 37)
      have hal := (Below.refl _ wb).alloc (Nat.le_refl _) (.cells (cB 16 hh) 37)
      replace HS := Lib.hid (HS.out.step hal)
      replace HT8 := Lib.hid (HT8.out.below hal)
      replace HT9 := Lib.hid (HT9.out.below hal)
      replace HQ := Lib.hid (HQ.out.below hal HQ.out.lt)
      clear hal
      obtain ⟨hz, hze⟩ : ∃ hz, hz = eq16 hh z16 := ⟨_, rfl⟩
      have hq : ∀ W, (eqq 37 (.agg (cB 16 hh)) (.agg (cB 16 z16))).run Try.prog W = .ok (.bool hz) W := fun W => by rw [hze]; exact eqq_run hh z16 W
      have HZE := Lib.hid hze
      clear hze
      have hgt := guard_type
      have lz := ld16_is HZ.out
      go_wp2_with fail
      refine (works _).mono ?_
      rintro e wd ⟨rfl, hb⟩
      replace HS := Lib.hid (HS.out.step hb)
      go_wp2_with fail
      go_ret
      exact ⟨rfl, HS.out.below⟩
    | true =>
      have HBAD := Lib.hid (HB0.out rfl)
      clear HB0
      have lk := HS.out.lk
      go_wp2_with fail
      refine (HC.out.rexp _).mono ?_
      rintro e wa ⟨rfl, hb⟩
      replace HS := Lib.hid (HS.out.step hb)
      replace HT8 := Lib.hid (HT8.out.below hb)
      replace HT9 := Lib.hid (HT9.out.below hb)
      replace HQ := Lib.hid (HQ.out.below hb HQ.out.lt)
      clear hb lk
      have hb37 := bd_zero37
      go_wp2_with fail
      refine (HC.out.rblock z16 wa).mono ?_
      rintro e wb ⟨rfl, hb⟩
      replace HS := Lib.hid (HS.out.step hb)
      replace HT8 := Lib.hid (HT8.out.below hb)
      replace HT9 := Lib.hid (HT9.out.below hb)
      replace HQ := Lib.hid (HQ.out.below hb HQ.out.lt)
      clear hb
      obtain ⟨hh, hhe⟩ : ∃ hh, hh = E z16 := ⟨_, rfl⟩
      rw [← hhe]
      have HHE := Lib.hid hhe
      clear hhe
      have hst := st_new wb hh
      have HZ := Lib.hid (Blk.Is.new wb (cB 16 hh) 37)
      have hal := (Below.refl _ wb).alloc (Nat.le_refl _) (.cells (cB 16 hh) 37)
      replace HS := Lib.hid (HS.out.step hal)
      replace HT8 := Lib.hid (HT8.out.below hal)
      replace HT9 := Lib.hid (HT9.out.below hal)
      replace HQ := Lib.hid (HQ.out.below hal HQ.out.lt)
      clear hal
      obtain ⟨hz, hze⟩ : ∃ hz, hz = eq16 hh z16 := ⟨_, rfl⟩
      have hq : ∀ W, (eqq 37 (.agg (cB 16 hh)) (.agg (cB 16 z16))).run Try.prog W = .ok (.bool hz) W := fun W => by rw [hze]; exact eqq_run hh z16 W
      have HZE := Lib.hid hze
      clear hze
      have hgt := guard_type
      have lz := ld16_is HZ.out
      cases hz with
      | true =>
        go_wp2_with fail
        refine (works _).mono ?_
        rintro e wd ⟨rfl, hb⟩
        replace HS := Lib.hid (HS.out.step hb)
        go_wp2_with fail
        go_ret
        exact ⟨rfl, HS.out.below⟩
      | false =>
        have hop := open_t (nonce := nonce) HC.out HT9.out HT8.out l2.length HL8.out (by have := HL9.out; have := HN1.out; omega) (by have := HN2.out; omega) false (HBAD.out (blk_zero (by rw [← HHE.out]; exact HZE.out.symm))).symm [] rfl 60 rfl
        have lk := HS.out.lk
        have lq := ld12_is HQ.out
        go_wp2_with fail
        refine (hop).mono ?_
        rintro e wc ⟨Ap, cp, rfl, _, _, hb⟩
        replace HS := Lib.hid (HS.out.step hb)
        clear hb hop lk lq
        go_wp2_with fail
        refine (works wc).mono ?_
        rintro e wd ⟨rfl, hb⟩
        replace HS := Lib.hid (HS.out.step hb)
        go_wp2_with fail
        go_ret
        exact ⟨rfl, HS.out.below⟩
  · skip
    obtain ⟨k, hk⟩ : ∃ k : Nat, k = (l1.length + 15) / 16 := ⟨_, rfl⟩
    have hn := HN1.out
    obtain ⟨r, hr0, hr1, hmod⟩ := mod_t at_ k (by omega)
    obtain ⟨f, hf⟩ : ∃ f : Nat, f = 16 * r := ⟨_, rfl⟩
    have hfb : f < 200000 := by by_cases h0 : k = 0 <;> omega
    have HF := Lib.hid hf
    have HFB := Lib.hid hfb
    have HMOD := Lib.hid hmod
    have hqd : Int.tdiv ((l1.length : Int) + 15) 16 = (k : Int) := by rw [Int.tdiv_eq_ediv_of_nonneg (by omega)]; omega
    have hw15 : wrap64 ((l1.length : Int) + 15) = (l1.length : Int) + 15 := by unfold wrap64; omega
    have hw16 : IntKind.i64.wrap ((l1.length : Int) + 15) = (l1.length : Int) + 15 := by rw [i64_w]; exact hw15
    have hwk : wrap64 (k : Int) = (k : Int) := by unfold wrap64; omega
    have hwk2 : IntKind.i64.wrap (k : Int) = (k : Int) := by rw [i64_w]; exact hwk
    have hmul : wrap64 (16 * (r : Int)) = (f : Int) := by unfold wrap64; omega
    have hmul2 : IntKind.i64.wrap (16 * (r : Int)) = (f : Int) := by rw [i64_w]; exact hmul
    clear hk hr0 hr1 hmod hf hfb
    go_wp2_with fail
    refine start_ (n := 17) (S := fun w' => w'.cell? ⟨w.heap.size + 1, 1, none⟩ = some (.int .i64 at_) ∧ (Blk.ld 37 (.pointer (some ⟨w.heap.size + 1, 2, none⟩))).run Try.prog w' = .ok (.agg (cB 16 mask)) w') (ds := []) #[false, false, false, false, false, false, false, false, false, false, false, false, false, false, false, false, false] (by kernel_rfl) rfl rfl ⟨(tu_at HU.out.drew), (tu_mask HU.out.drew)⟩ (fun hHeld => ?_)
    replace HS := Lib.hid (HS.out.drew)
    replace HU := Lib.hid (HU.out.drew)
    replace HT5 := Lib.hid (HT5.out.below (Below.refl _ _).drew)
    replace HT7 := Lib.hid (HT7.out.below (Below.refl _ _).drew)
    replace HQ := Lib.hid (HQ.out.drew)
    generalize w7.drew = w8 at *
    refine pure_ (i := 0) (N := some 56) (v := ?_) (a' := ?_) #[true, false, false, false, false, false, false, false, false, false, false, false, false, false, false, false, false] rfl rfl (by kernel_rfl) (fun _ _ _ h => h) (Or.inl ⟨by rfl, ?_⟩) ?_ ?_
    rotate_left
    · intro w'
      go_simp
      with_reducible rfl
    rotate_left
    · simp only [Act.put, List.setIfInBounds_toArray, List.set_cons_zero, List.set_cons_succ, i64_w, i32_w]
      rfl
    refine pure_ (i := 1) (N := some 57) (v := ?_) (a' := ?_) #[true, true, false, false, false, false, false, false, false, false, false, false, false, false, false, false, false] rfl rfl (by kernel_rfl) (fun _ _ _ h => h) (Or.inl ⟨by rfl, ?_⟩) ?_ ?_
    rotate_left
    · intro w'
      go_simp
      with_reducible rfl
    rotate_left
    · simp only [Act.put, List.setIfInBounds_toArray, List.set_cons_zero, List.set_cons_succ, i64_w, i32_w]
      rfl
    refine pure_ (i := 3) (N := some 59) (v := ?_) (a' := ?_) #[true, true, false, true, false, false, false, false, false, false, false, false, false, false, false, false, false] rfl rfl (by kernel_rfl) (fun _ _ _ h => h) (Or.inl ⟨by rfl, ?_⟩) ?_ ?_
    rotate_left
    · intro w'
      go_simp
      with_reducible rfl
    rotate_left
    · simp only [Act.put, List.setIfInBounds_toArray, List.set_cons_zero, List.set_cons_succ, i64_w, i32_w]
      rfl
    refine pure_ (i := 4) (N := some 60) (v := ?_) (a' := ?_) #[true, true, false, true, true, false, false, false, false, false, false, false, false, false, false, false, false] rfl rfl (by kernel_rfl) (fun _ _ _ h => h) (Or.inl ⟨by rfl, ?_⟩) ?_ ?_
    rotate_left
    · intro w'
      go_simp
      with_reducible rfl
    rotate_left
    · simp only [Act.put, List.setIfInBounds_toArray, List.set_cons_zero, List.set_cons_succ, i64_w, i32_w]
      rfl
    refine pure_ (i := 5) (N := some 61) (v := ?_) (a' := ?_) #[true, true, false, true, true, true, false, false, false, false, false, false, false, false, false, false, false] rfl rfl (by kernel_rfl) (fun _ _ _ h => h) (Or.inl ⟨by rfl, ?_⟩) ?_ ?_
    rotate_left
    · intro w'
      go_simp
      with_reducible rfl
    rotate_left
    · simp only [Act.put, List.setIfInBounds_toArray, List.set_cons_zero, List.set_cons_succ, i64_w, i32_w]
      rfl
    refine pure_ (i := 6) (N := some 62) (v := ?_) (a' := ?_) #[true, true, false, true, true, true, true, false, false, false, false, false, false, false, false, false, false] rfl rfl (by kernel_rfl) (fun _ _ _ h => h) (Or.inl ⟨by rfl, ?_⟩) ?_ ?_
    rotate_left
    · intro w'
      go_simp
      with_reducible rfl
    rotate_left
    · simp only [Act.put, List.setIfInBounds_toArray, List.set_cons_zero, List.set_cons_succ, i64_w, i32_w]
      rfl
    refine pure_ (i := 9) (N := some 65) (v := ?_) (a' := ?_) #[true, true, false, true, true, true, true, false, false, true, false, false, false, false, false, false, false] rfl rfl (by kernel_rfl) (fun _ _ _ h => h) (Or.inl ⟨by rfl, ?_⟩) ?_ ?_
    rotate_left
    · intro w'
      go_simp
      with_reducible rfl
    rotate_left
    · simp only [Act.put, List.setIfInBounds_toArray, List.set_cons_zero, List.set_cons_succ, i64_w, i32_w]
      rfl
    refine take_ (i := 2) (N := some 58) (v := ?_) (a' := ?_) #[true, true, true, true, true, true, true, false, false, true, false, false, false, false, false, false, false] rfl rfl (by kernel_rfl) (fun _ _ _ h => h) (Or.inl ⟨by rfl, ?_⟩) hHeld ?_ ?_
    rotate_left
    · rintro w' ⟨s0, s1⟩
      go_simp
      with_reducible rfl
    rotate_left
    · simp only [Act.put, List.setIfInBounds_toArray, List.set_cons_zero, List.set_cons_succ, i64_w, i32_w]
      rfl
    refine take_ (i := 10) (N := some 66) (v := ?_) (a' := ?_) #[true, true, true, true, true, true, true, false, false, true, true, false, false, false, false, false, false] rfl rfl (by kernel_rfl) (fun _ _ _ h => h) (Or.inl ⟨by rfl, ?_⟩) hHeld ?_ ?_
    rotate_left
    · rintro w' ⟨s0, s1⟩
      go_simp
      with_reducible rfl
    rotate_left
    · simp only [Act.put, List.setIfInBounds_toArray, List.set_cons_zero, List.set_cons_succ, i64_w, i32_w]
      rfl
    refine one_ (i := 7) (N := some 63) #[true, true, true, true, true, true, true, true, false, true, true, false, false, false, false, false, false] rfl rfl (by kernel_rfl) (by decide) (fun K hK => ?_)
    refine goes_ Try.func18 (by kernel_rfl) rfl #[.int .i64 at_, .int .i64 (k : Int)] (by rfl) rfl rfl (by simp only [List.map_toArray, List.map_cons, List.map_nil]; rfl) ?_
    with_reducible refine (HMOD.out w8).mono ?_
    rintro e w9 ⟨rfl, hb⟩
    refine ⟨_, rfl, ?_⟩
    replace HS := Lib.hid (HS.out.step hb)
    replace HU := Lib.hid (HU.out.below hb HU.out.lt)
    replace HT5 := Lib.hid (HT5.out.below hb)
    replace HT7 := Lib.hid (HT7.out.below hb)
    replace HQ := Lib.hid (HQ.out.below hb HQ.out.lt)
    clear hb
    refine hK.out _ _ ⟨(tu_at HU.out), (tu_mask HU.out)⟩ (fun hHeld => ?_)
    clear hK K
    refine norm_ (a' := ?_) ?_ ?_
    rotate_left
    · show Act.put _ (some 63) _ = _
      simp only [Act.put, List.setIfInBounds_toArray, List.set_cons_zero, List.set_cons_succ, i64_w, i32_w]
      rfl
    refine pure_ (i := 8) (N := some 64) (v := ?_) (a' := ?_) #[true, true, true, true, true, true, true, true, true, true, true, false, false, false, false, false, false] rfl rfl (by kernel_rfl) (fun _ _ _ h => h) (Or.inl ⟨by rfl, ?_⟩) ?_ ?_
    rotate_left
    · intro w'
      go_simp
      with_reducible rfl
    rotate_left
    · simp only [Act.put, List.setIfInBounds_toArray, List.set_cons_zero, List.set_cons_succ, i64_w, i32_w]
      rfl
    refine one_ (i := 11) (N := some 67) #[true, true, true, true, true, true, true, true, true, true, true, true, false, false, false, false, false] rfl rfl (by kernel_rfl) (by decide) (fun K hK => ?_)
    refine goes_ Try.func19 (by kernel_rfl) rfl #[.slice A7 l1.length c7, .int .i64 (f : Int), .agg (cB 16 mask)] (by rfl) rfl rfl (by simp only [List.map_toArray, List.map_cons, List.map_nil]; rfl) ?_
    with_reducible refine (turned_calls mask A7 c7 l1 f HFB.out w9 HT7.out).mono ?_
    rintro e wt ⟨v8, rfl, hR, hb⟩
    refine ⟨_, rfl, ?_⟩
    replace HS := Lib.hid (HS.out.step hb)
    replace HU := Lib.hid (HU.out.below hb HU.out.lt)
    replace HT5 := Lib.hid (HT5.out.below hb)
    replace HT7 := Lib.hid (HT7.out.below hb)
    replace HQ := Lib.hid (HQ.out.below hb HQ.out.lt)
    obtain ⟨A9, c9, rfl, hT9⟩ := row_txt hR (turnN_by l1 HT7.out.by_ _ _ _) (by rw [turnN_len]; have := HN1.out; omega)
    have HT9 := Lib.hid hT9
    clear hT9 hR hb
    refine hK.out _ _ ⟨(tu_at HU.out), (tu_mask HU.out)⟩ (fun hHeld => ?_)
    clear hK K
    refine norm_ (a' := ?_) ?_ ?_
    rotate_left
    · show Act.put _ (some 67) _ = _
      simp only [Act.put, List.setIfInBounds_toArray, List.set_cons_zero, List.set_cons_succ, i64_w, i32_w]
      rfl
    refine pure_ (i := 12) (N := some 55) (v := ?_) (a' := ?_) #[true, true, true, true, true, true, true, true, true, true, true, true, true, false, false, false, false] rfl rfl (by kernel_rfl) (fun _ _ _ h => h) (Or.inl ⟨by rfl, ?_⟩) ?_ ?_
    rotate_left
    · intro w'
      go_simp
      with_reducible rfl
    rotate_left
    · simp only [Act.put, List.setIfInBounds_toArray, List.set_cons_zero, List.set_cons_succ, i64_w, i32_w]
      rfl
    refine pure_ (i := 13) (N := some 68) (v := ?_) (a' := ?_) #[true, true, true, true, true, true, true, true, true, true, true, true, true, true, false, false, false] rfl rfl (by kernel_rfl) (fun _ _ _ h => h) (Or.inl ⟨by rfl, ?_⟩) ?_ ?_
    rotate_left
    · intro w'
      go_simp
      with_reducible rfl
    rotate_left
    · simp only [Act.put, List.setIfInBounds_toArray, List.set_cons_zero, List.set_cons_succ, i64_w, i32_w]
      rfl
    refine pure_ (i := 14) (N := some 69) (v := ?_) (a' := ?_) #[true, true, true, true, true, true, true, true, true, true, true, true, true, true, true, false, false] rfl rfl (by kernel_rfl) (fun _ _ _ h => h) (Or.inl ⟨by rfl, ?_⟩) ?_ ?_
    rotate_left
    · intro w'
      go_simp
      with_reducible rfl
    rotate_left
    · simp only [Act.put, List.setIfInBounds_toArray, List.set_cons_zero, List.set_cons_succ, i64_w, i32_w]
      rfl
    refine pure_ (i := 15) (N := some 7) (v := ?_) (a' := ?_) #[true, true, true, true, true, true, true, true, true, true, true, true, true, true, true, true, false] rfl rfl (by kernel_rfl) (fun _ _ _ h => h) (Or.inl ⟨by rfl, ?_⟩) ?_ ?_
    rotate_left
    · intro w'
      go_simp
      with_reducible rfl
    rotate_left
    · simp only [Act.put, List.setIfInBounds_toArray, List.set_cons_zero, List.set_cons_succ, i64_w, i32_w]
      rfl
    refine pure_ (i := 16) (N := some 9) (v := ?_) (a' := ?_) #[true, true, true, true, true, true, true, true, true, true, true, true, true, true, true, true, true] rfl rfl (by kernel_rfl) (fun _ _ _ h => h) (Or.inl ⟨by rfl, ?_⟩) ?_ ?_
    rotate_left
    · intro w'
      go_simp
      with_reducible rfl
    rotate_left
    · simp only [Act.put, List.setIfInBounds_toArray, List.set_cons_zero, List.set_cons_succ, i64_w, i32_w]
      rfl
    refine done_ (by kernel_rfl) ?_
    clear hqd hwk hmul hw15 hw16 hwk2 hmul2
    have HB0 : Hid (otherN l1.length f mask 16 = true → blkW (E z16) ≠ 0#128 → tagOk E nonce (turnN l1 f mask 16) s l2.length = false) := by
      intro h hH
      have hfe := HF.out
      rw [hfe] at h ⊢
      rw [HSE.out]
      exact bad_ad hH mask r h
    have HL9 : Hid ((turnN l1 f mask 16).length = l1.length) := turnN_len _ _ _ _
    have HL8 := HLN
    have HT8 := HT5
    generalize otherN l1.length f mask 16 = d at *
    generalize turnN l1 f mask 16 = l9 at *
    cases d with
    | false =>
      have lk := HS.out.lk
      go_wp2_with fail
      refine (HC.out.rexp _).mono ?_
      rintro e wa ⟨rfl, hb⟩
      replace HS := Lib.hid (HS.out.step hb)
      replace HT8 := Lib.hid (HT8.out.below hb)
      replace HT9 := Lib.hid (HT9.out.below hb)
      replace HQ := Lib.hid (HQ.out.below hb HQ.out.lt)
      clear hb lk
      have hb37 := bd_zero37
      go_wp2_with fail
      refine (HC.out.rblock z16 wa).mono ?_
      rintro e wb ⟨rfl, hb⟩
      replace HS := Lib.hid (HS.out.step hb)
      replace HT8 := Lib.hid (HT8.out.below hb)
      replace HT9 := Lib.hid (HT9.out.below hb)
      replace HQ := Lib.hid (HQ.out.below hb HQ.out.lt)
      clear hb
      obtain ⟨hh, hhe⟩ : ∃ hh, hh = E z16 := ⟨_, rfl⟩
      rw [← hhe]
      have HHE := Lib.hid hhe
      clear hhe
      have hst := st_new wb hh
      have HZ := Lib.hid (Blk.Is.new wb (cB 16 hh) 37)
      have hal := (Below.refl _ wb).alloc (Nat.le_refl _) (.cells (cB 16 hh) 37)
      replace HS := Lib.hid (HS.out.step hal)
      replace HT8 := Lib.hid (HT8.out.below hal)
      replace HT9 := Lib.hid (HT9.out.below hal)
      replace HQ := Lib.hid (HQ.out.below hal HQ.out.lt)
      clear hal
      obtain ⟨hz, hze⟩ : ∃ hz, hz = eq16 hh z16 := ⟨_, rfl⟩
      have hq : ∀ W, (eqq 37 (.agg (cB 16 hh)) (.agg (cB 16 z16))).run Try.prog W = .ok (.bool hz) W := fun W => by rw [hze]; exact eqq_run hh z16 W
      have HZE := Lib.hid hze
      clear hze
      have hgt := guard_type
      have lz := ld16_is HZ.out
      go_wp2_with fail
      refine (works _).mono ?_
      rintro e wd ⟨rfl, hb⟩
      replace HS := Lib.hid (HS.out.step hb)
      go_wp2_with fail
      go_ret
      exact ⟨rfl, HS.out.below⟩
    | true =>
      have HBAD := Lib.hid (HB0.out rfl)
      clear HB0
      have lk := HS.out.lk
      go_wp2_with fail
      refine (HC.out.rexp _).mono ?_
      rintro e wa ⟨rfl, hb⟩
      replace HS := Lib.hid (HS.out.step hb)
      replace HT8 := Lib.hid (HT8.out.below hb)
      replace HT9 := Lib.hid (HT9.out.below hb)
      replace HQ := Lib.hid (HQ.out.below hb HQ.out.lt)
      clear hb lk
      have hb37 := bd_zero37
      go_wp2_with fail
      refine (HC.out.rblock z16 wa).mono ?_
      rintro e wb ⟨rfl, hb⟩
      replace HS := Lib.hid (HS.out.step hb)
      replace HT8 := Lib.hid (HT8.out.below hb)
      replace HT9 := Lib.hid (HT9.out.below hb)
      replace HQ := Lib.hid (HQ.out.below hb HQ.out.lt)
      clear hb
      obtain ⟨hh, hhe⟩ : ∃ hh, hh = E z16 := ⟨_, rfl⟩
      rw [← hhe]
      have HHE := Lib.hid hhe
      clear hhe
      have hst := st_new wb hh
      have HZ := Lib.hid (Blk.Is.new wb (cB 16 hh) 37)
      have hal := (Below.refl _ wb).alloc (Nat.le_refl _) (.cells (cB 16 hh) 37)
      replace HS := Lib.hid (HS.out.step hal)
      replace HT8 := Lib.hid (HT8.out.below hal)
      replace HT9 := Lib.hid (HT9.out.below hal)
      replace HQ := Lib.hid (HQ.out.below hal HQ.out.lt)
      clear hal
      obtain ⟨hz, hze⟩ : ∃ hz, hz = eq16 hh z16 := ⟨_, rfl⟩
      have hq : ∀ W, (eqq 37 (.agg (cB 16 hh)) (.agg (cB 16 z16))).run Try.prog W = .ok (.bool hz) W := fun W => by rw [hze]; exact eqq_run hh z16 W
      have HZE := Lib.hid hze
      clear hze
      have hgt := guard_type
      have lz := ld16_is HZ.out
      cases hz with
      | true =>
        go_wp2_with fail
        refine (works _).mono ?_
        rintro e wd ⟨rfl, hb⟩
        replace HS := Lib.hid (HS.out.step hb)
        go_wp2_with fail
        go_ret
        exact ⟨rfl, HS.out.below⟩
      | false =>
        have hop := open_t (nonce := nonce) HC.out HT9.out HT8.out l2.length HL8.out (by have := HL9.out; have := HN1.out; omega) (by have := HN2.out; omega) false (HBAD.out (blk_zero (by rw [← HHE.out]; exact HZE.out.symm))).symm [] rfl 60 rfl
        have lk := HS.out.lk
        have lq := ld12_is HQ.out
        go_wp2_with fail
        refine (hop).mono ?_
        rintro e wc ⟨Ap, cp, rfl, _, _, hb⟩
        replace HS := Lib.hid (HS.out.step hb)
        clear hb hop lk lq
        go_wp2_with fail
        refine (works wc).mono ?_
        rintro e wd ⟨rfl, hb⟩
        replace HS := Lib.hid (HS.out.step hb)
        go_wp2_with fail
        go_ret
        exact ⟨rfl, HS.out.below⟩

/-- The law, whatever the texts. -/
theorem any (key nonce : Nat → B) (A1 A2 : Option Addr) (c1 c2 : Nat) (l1 l2 : List Int) (wh at_ : Int) (mask : Nat → B) (w : World) (h1 : Arg w A1 c1 l1) (h2 : Arg w A2 c2 l2) : Calls Try.prog 6 #[.agg (seC key nonce (.slice A1 l1.length c1) (.slice A2 l2.length c2)), .agg (tuC wh at_ mask)] w fun e w' => e = .returned (.bool true) ∧ Below w.heap.size w w' := by
  by_cases g1 : l1.length ≤ 4096
  · by_cases g2 : l2.length ≤ 4096
    · exact law key nonce A1 A2 c1 c2 l1 l2 wh at_ mask w (h1.txt (by omega)) (h2.txt (by omega)) g1 g2
    · exact long key nonce A1 A2 c1 c2 l1 l2 wh at_ mask w (Or.inr (by omega))
  · exact long key nonce A1 A2 c1 c2 l1 l2 wh at_ mask w (Or.inl (by omega))
end Go.Proofs.Ytbebmbcjddibaaa.HGcmTurned
