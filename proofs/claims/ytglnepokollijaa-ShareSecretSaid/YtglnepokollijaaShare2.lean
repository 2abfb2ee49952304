/- What is said here: share.Split parts a secret: each share's bytes are the polynomials' values at its place. -/
import Derived.Test.YtglnepokollijaaShare1
import Derived.Test.YtglnepokollijaaCut3
import Derived.Lib.Hide
import Derived.Outline
import Derived.LoopTactic
namespace Go.Proofs.Ytglnepokollijaa.Share
set_option linter.unusedVariables false
set_option linter.unusedSimpArgs false
open Go.RowKit Go.Proofs.Ytglnepokollijaa.Row Go.Proofs.YtglnepokollijaaW.PrintWords Go.Proofs.YtglnepokollijaaW.PrintLast Go.Proofs.YtglnepokollijaaW.PrintMore
open Gf Gfi Poly

/-- Byte j of the share at a place. -/
def yb (bs ds : List B) (k : Nat) (x : B) (j : Nat) : B := bs.getD j 0#8 ^^^ mul x (ev x ((ds.take ((k - 1) * (j + 1))).drop ((k - 1) * j)))
/-- The share's bytes, as far as j; noughts behind. -/
def yr (bs ds : List B) (k : Nat) (x : B) (j : Nat) : List Int := ints ((List.range j).map (yb bs ds k x)) ++ List.replicate (bs.length - j) 0
theorem yr_len (bs ds : List B) (k : Nat) (x : B) (j : Nat) (h : j ≤ bs.length) : (yr bs ds k x j).length = bs.length := by
  unfold yr
  rw [List.length_append, ints_length, List.length_map, List.length_range, List.length_replicate]
  omega
theorem yr_set (bs ds : List B) (k : Nat) (x : B) (j : Nat) (h : j < bs.length) : (yr bs ds k x j).set j (ofB (yb bs ds k x j)) = yr bs ds k x (j + 1) := by
  unfold yr
  have hl : (ints ((List.range j).map (yb bs ds k x))).length = j := by rw [ints_length, List.length_map, List.length_range]
  rw [List.set_append_right _ _ (by omega), hl, Nat.sub_self, show bs.length - j = (bs.length - (j + 1)) + 1 by omega, List.replicate_succ, List.set_cons_zero, List.range_succ, List.map_append, ints, ints, List.map_append, List.append_assoc]
  rfl
/-- The place of share q. -/
def xB (q : Nat) : B := BitVec.ofNat 8 (q + 1)
theorem xB_int (q : Nat) (h : q < 255) : ofB (xB q) = (q : Int) + 1 := by
  unfold ofB xB
  rw [BitVec.toNat_ofNat]
  omega

/-- The draws of byte j. -/
def dr (ds : List B) (k j : Nat) : List B := (ds.take ((k - 1) * (j + 1))).drop ((k - 1) * j)
theorem dr_ints (ds : List B) (k j : Nat) : ((ints ds).take ((k - 1) * (j + 1))).drop ((k - 1) * j) = ints (dr ds k j) := by
  unfold dr ints
  rw [List.map_drop, List.map_take]
theorem dr_len (ds : List B) (k j : Nat) : (dr ds k j).length ≤ ds.length := by unfold dr; rw [List.length_drop, List.length_take]; omega
/-- What Eval tells. -/
def field_EvalF (D : List B) (x : B) : Prop := PA.field_Eval.f (D.length + 21) (ints D) (ofB x) = some (ofB (ev x D))
theorem evalF (D : List B) (x : B) (h : D.length ≤ 1000000) : field_EvalF D x := AEv.eval_f D x (by omega) (by omega)
/-- The refusals. -/
theorem bad_calls (A0 A3 : Option Addr) (L M c0 c3 : Nat) (n k : Int) (e : Int) (w : World) (hL : L ≤ 140737488355328) (hM : M ≤ 140737488355328)
    (h : (e = 2 ∧ (k < 1 ∨ n < k ∨ 16 < n)) ∨ (e = 3 ∧ ¬ (k < 1 ∨ n < k ∨ 16 < n) ∧ 1024 < L) ∨ (e = 41 ∧ ¬ (k < 1 ∨ n < k ∨ 16 < n) ∧ L ≤ 1024 ∧ (M : Int) ≠ (k - 1) * (L : Int))) :
    Calls Try.prog 10 #[.slice A0 L c0, .int .i64 n, .int .i64 k, .slice A3 M c3] w fun e' w' => e' = .returned (.tuple #[.slice none 0 0, .int .i64 e]) ∧ w' = w := by
  rcases h with ⟨rfl, h⟩ | ⟨rfl, h, h2⟩ | ⟨rfl, h, h2, h3⟩
  · by_cases h1 : k < 1
    · clear h
      go_enter Try.func10, Try.ntmps10
      go_wp2
      go_ret2
      exact ⟨rfl, rfl⟩
    · by_cases h2 : n < k
      · clear h
        go_enter Try.func10, Try.ntmps10
        go_wp2
        go_ret2
        exact ⟨rfl, rfl⟩
      · have h3 : 16 < n := by omega
        clear h
        go_enter Try.func10, Try.ntmps10
        go_wp2
        go_ret2
        exact ⟨rfl, rfl⟩
  · have h3 : ¬ k < 1 := by omega
    have h4 : ¬ n < k := by omega
    have h5 : ¬ 16 < n := by omega
    clear h
    go_enter Try.func10, Try.ntmps10
    go_wp2
    go_ret2
    exact ⟨rfl, rfl⟩
  · have h4 : ¬ k < 1 := by omega
    have h5 : ¬ n < k := by omega
    have h6 : ¬ 16 < n := by omega
    have hkk : IntKind.i64.wrap (k - 1) = k - 1 := IntWalk.i64_in _ (by omega)
    have hmw : IntKind.i64.wrap ((k - 1) * (L : Int)) = (k - 1) * (L : Int) :=
      IntWalk.i64_in _ ⟨by have := Int.mul_nonneg (show 0 ≤ k - 1 by omega) (show 0 ≤ (L : Int) by omega); omega, by have := Int.mul_le_mul (show k - 1 ≤ 15 by omega) (show (L : Int) ≤ 1024 by omega) (by omega) (by omega); omega⟩
    have hne : ((M : Int) != (k - 1) * (L : Int)) = true := bne_iff_ne.mpr h3
    clear h h3
    go_enter Try.func10, Try.ntmps10
    go_wp2
    go_ret2
    exact ⟨rfl, rfl⟩
set_option maxRecDepth 100000 in
set_option maxHeartbeats 8000000 in
theorem split_calls (bs ds : List B) (A0 A3 : Option Addr) (c0 c3 n k : Nat) (w : World) (hr0 : Kd.C (Kd.int .u8) w A0 bs.length (ints bs)) (hc0 : bs.length ≤ c0) (hr3 : Kd.C (Kd.int .u8) w A3 ds.length (ints ds)) (hc3 : ds.length ≤ c3)
    (hk : 1 ≤ k) (hkn : k ≤ n) (hn : n ≤ 16) (hL : bs.length ≤ 1024) (hD : ds.length = (k - 1) * bs.length) :
    Calls Try.prog 10 #[.slice A0 bs.length c0, .int .i64 (n : Int), .int .i64 (k : Int), .slice A3 ds.length c3] w fun e w' => ∃ (v : Value) (b : Nat → Nat), e = .returned (.tuple #[v, .int .i64 0]) ∧ IsS w' w.heap.size v n b bs.length ∧
      (∀ q, q < n → Row.Is w' w.heap.size (sl b bs.length q) (yr bs ds k (xB q) bs.length)) ∧ (∀ p q, p < q → q < n → b p < b q) ∧ Below w.heap.size w w' := by
  have HR0 := Lib.hid hr0
  have HR3 := Lib.hid hr3
  have HD := Lib.hid hD
  clear hr0 hr3 hD
  obtain ⟨L, hLL⟩ : ∃ L, bs.length = L := ⟨_, rfl⟩
  have HLL := Lib.hid hLL
  rw [hLL] at hc0 hL ⊢
  clear hLL
  obtain ⟨M, hMM⟩ : ∃ M, ds.length = M := ⟨_, rfl⟩
  have HMM := Lib.hid hMM
  rw [hMM] at hc3 ⊢
  clear hMM
  have hM : (M : Int) = ((k : Int) - 1) * (L : Int) := by
    have := HD.out
    rw [HMM.out, HLL.out] at this
    rw [this, Int.natCast_mul]
    congr 1
    omega
  have hkk : IntKind.i64.wrap ((k : Int) - 1) = (k : Int) - 1 := IntWalk.i64_in _ (by omega)
  have hmw : IntKind.i64.wrap (((k : Int) - 1) * (L : Int)) = (M : Int) := by
    rw [hM]
    exact IntWalk.i64_in _ ⟨by have := Int.mul_nonneg (show 0 ≤ (k : Int) - 1 by omega) (show 0 ≤ (L : Int) by omega); omega, by have := Int.mul_le_mul (show (k : Int) - 1 ≤ 15 by omega) (show (L : Int) ≤ 1024 by omega) (by omega) (by omega); omega⟩
  clear hM
  go_enter Try.func10, Try.ntmps10
  go_wp2_with fail
  generalize decide (n < k) = bb1
  go_loopw [8, 10, 44] (fun v8 v10 v44 wr => ∃ (i : Nat) (b : Nat → Nat), i ≤ n ∧ v44 = .int .i64 (i : Int) ∧ Hid (IsS wr w.heap.size v8 i b L) ∧ Hid (∀ q, q < i → Row.Is wr w.heap.size (sl b L q) (List.replicate L 0)) ∧ Hid (∀ p q, p < q → q < i → b p < b q) ∧ Hid (Below w.heap.size w wr)) (fun _ _ v44 _ => n - (intOf v44).toNat)
  case atStart => exact ⟨0, fun _ => 0, by omega, rfl, IsS.nil _ _ _ _, fun q h => absurd h (Nat.not_lt_zero q), fun p q _ h => absurd h (Nat.not_lt_zero q), Below.refl _ _⟩
  case round =>
    obtain ⟨i, b, hi, rfl, HS, HY, HO, HB⟩ := hrel
    by_cases hlt : i < n
    · have hby : IntKind.u8.wrap ((i : Int) + 1) = (i : Int) + 1 := by simp [IntKind.wrap, IntKind.bits, IntKind.signed]; omega
      go_wp2_with (first
        | (refine Row.make _ _ L rfl rfl rfl rfl (by omega) ?_; intro w1 q1 q2
           have hb1 : Below wr.heap.size wr w1 := ⟨q2.os, q2.tape, q2.output, q2.size, fun k hk => q2.block k hk (by simp)⟩
           have HS1 := Lib.hid (HS.out.below hb1)
           have HY1 : Hid (∀ q, q < i → Row.Is w1 w.heap.size (sl b L q) (List.replicate L 0)) := fun q hq => (HY.out q hq).below hb1
           have HN : Hid (Row.Is w1 w.heap.size (.slice (some ⟨wr.heap.size, 0, none⟩) L L) (List.replicate L 0)) := q1.lower HB.out.size
           have HB1 : Hid (Below w.heap.size w w1) := HB.out.trans (hb1.mono HB.out.size)
           have HK : Hid (∀ q, q < i → b q < wr.heap.size) := fun q hq => ((HY.out q hq).lt (b q) rfl).2
           have hsz : w.heap.size ≤ w1.heap.size := HB1.out.size
           generalize wr.heap.size = g at *
           clear q1 q2 hb1 HS HY HB)
        | (refine appendS w.heap.size _ _ u8 i g rfl rfl rfl rfl HS1.out hsz (by omega) ?_; intro v1 w2 q1 q2 q3))
      have HS2 := Lib.hid q1
      have HB2 : Hid (Below w.heap.size w w2) := HB1.out.trans q2
      have HY2 : Hid (∀ q, q < i + 1 → Row.Is w2 w.heap.size (sl (updN b i g) L q) (List.replicate L 0)) := fun q hq => by
        by_cases h : q = i
        · subst h
          rw [sl, updN_at]
          exact HN.out.grown q3 (fun k hk e => HS1.out.apart HN.out k e.symm hk)
        · rw [sl, updN_ne _ _ _ _ h]
          exact (HY1.out q (by omega)).grown q3 (fun k hk e => HS1.out.apart (HY1.out q (by omega)) k e.symm hk)
      have HO2 : Hid (∀ p q, p < q → q < i + 1 → updN b i g p < updN b i g q) := fun p q hp hq => by
        by_cases h : q = i
        · subst h
          rw [updN_at, updN_ne _ _ _ _ (by omega)]
          exact HK.out p (by omega)
        · rw [updN_ne _ _ _ _ h, updN_ne _ _ _ _ (by omega)]
          exact HO.out p q hp (by omega)
      clear q1 q2 q3 HS1 HY1 HN HB1 HK HO
      go_wp2
      go_roundw
      case rel => exact ⟨i + 1, updN b i g, by omega, by go_num, HS2, HY2, HO2, HB2⟩
      case measure => simp [intOf]; omega
    · obtain rfl : n = i := by omega
      obtain ⟨A8, c8, rfl, hc8, h8⟩ := HS.out.form
      obtain ⟨g, rfl⟩ := h8 (by omega)
      have HS0 := Lib.hid HS.out
      have HY0 : Hid (∀ q, q < n → Row.Is wr w.heap.size (sl b L q) (yr bs ds k (xB q) 0)) := fun q hq => by
        have e : yr bs ds k (xB q) 0 = List.replicate L 0 := by unfold yr; rw [HLL.out]; rfl
        rw [e]
        exact HY.out q hq
      clear HS HY h8 hlt hi
      obtain ⟨H, hH⟩ : ∃ H, H = w.heap.size := ⟨_, rfl⟩
      have HH := Lib.hid hH
      rw [← hH] at HS0 HY0 HB
      clear hH
      go_wp2_with fail
      go_loopw [11, 12, 13, 14, 15, 17, 60, 79, 80, 81] (fun v11 v12 v13 v14 v15 v17 v60 v79 v80 v81 wl => ∃ (j : Nat), j ≤ L ∧ v60 = .int .i64 (j : Int) ∧ Hid (IsS wl H (.slice (some ⟨g, 0, none⟩) n c8) n b L) ∧ Hid (∀ q, q < n → Row.Is wl H (sl b L q) (yr bs ds k (xB q) j)) ∧ Hid (Below H w wl)) (fun _ _ _ _ _ _ v60 _ _ _ _ => L - (intOf v60).toNat)
      case atStart => exact ⟨0, by omega, rfl, HS0, HY0, HB⟩
      case round =>
        clear HS0 HY0 HB
        obtain ⟨j, hj, rfl, HS, HY, HB⟩ := hrel
        by_cases hjl : j < L
        · obtain ⟨ad, rfl, hrd⟩ := reads_at (by rw [ints_length, HLL.out]; have := HR0.out; rw [HLL.out] at this; exact this) (by rw [HLL.out]; omega : 0 < bs.length)
          have hcb : wr.cell? (ad.add j) = some (.int .u8 (ofB (bs.getD j 0#8))) := by
            have h1 := hrd j (by rw [HLL.out]; exact hjl)
            exact (HB.out.cell (by have := World.block_lt_of_cell? _ _ h1; rw [HH.out]; exact this)).trans h1
          have hj1 : IntKind.i64.wrap ((j : Int) + 1) = (j : Int) + 1 := IntWalk.i64_in _ (by omega)
          have hF : IntKind.i64.wrap (((k : Int) - 1) * (j : Int)) = (((k - 1) * j : Nat) : Int) := by
            rw [Int.natCast_mul, show ((k - 1 : Nat) : Int) = (k : Int) - 1 by omega]
            exact IntWalk.i64_in _ ⟨by have := Int.mul_nonneg (show 0 ≤ (k : Int) - 1 by omega) (show 0 ≤ (j : Int) by omega); omega, by have := Int.mul_le_mul (show (k : Int) - 1 ≤ 15 by omega) (show (j : Int) ≤ 1024 by omega) (by omega) (by omega); omega⟩
          have hT : IntKind.i64.wrap (((k : Int) - 1) * ((j : Int) + 1)) = (((k - 1) * (j + 1) : Nat) : Int) := by
            rw [Int.natCast_mul, show ((k - 1 : Nat) : Int) = (k : Int) - 1 by omega, show ((j + 1 : Nat) : Int) = (j : Int) + 1 by omega]
            exact IntWalk.i64_in _ ⟨by have := Int.mul_nonneg (show 0 ≤ (k : Int) - 1 by omega) (show 0 ≤ (j : Int) + 1 by omega); omega, by have := Int.mul_le_mul (show (k : Int) - 1 ≤ 15 by omega) (show (j : Int) + 1 ≤ 1025 by omega) (by omega) (by omega); omega⟩
          have hTM : (k - 1) * (j + 1) ≤ M := by rw [← HMM.out, HD.out, HLL.out]; exact Nat.mul_le_mul_left _ (by omega)
          have hFT : (k - 1) * j ≤ (k - 1) * (j + 1) := Nat.mul_le_mul_left _ (by omega)
          have HBw : Hid (Below w.heap.size w wr) := by rw [← HH.out]; exact HB.out
          obtain ⟨i0, hi0, _, hsz0, _⟩ := info_parts Row.infoB
          obtain ⟨A', hcut, hA', hC'⟩ := Cut3.mid3_of (P := Try.prog) (Value.int .u8) (0 : Int) 22 5 .i64 .i64 .i64 Try.underlying22 hi0 hsz0 A3 c3 (ints ds) (((k - 1) * j : Nat) : Int) (((k - 1) * (j + 1) : Nat) : Int) (by omega) (by omega) (by rw [ints_length, HMM.out]; omega) (by rw [ints_length, HMM.out]; exact hc3)
          have hCd : Kd.C (Kd.int .u8) w A' _ _ := Kd.C_of_reads (h1 := fun _ => rfl) (hA' _ (Kd.reads_of_C (by rw [ints_length]; exact HR3.out)))
          rw [Int.toNat_natCast, Int.toNat_natCast, dr_ints] at hCd hC'
          rw [Int.toNat_natCast, Int.toNat_natCast, dr_ints, ints_length, ints_length, HMM.out] at hcut
          have hdl : (dr ds k j).length ≤ 1000000 := by have := dr_len ds k j; rw [HMM.out] at this; have h1 : M ≤ 15 * 1024 := (by rw [← HMM.out, HD.out, HLL.out]; exact Nat.mul_le_mul (by omega) hL); omega
          rw [ints_length] at hCd hC'
          have HE : Hid (∀ x : B, field_EvalF (dr ds k j) x) := fun x => evalF _ x hdl
          have HC := Lib.hid hCd
          have hy : ∀ x, yb bs ds k x j = bs.getD j 0#8 ^^^ mul x (ev x (dr ds k j)) := fun x => rfl
          have Hy := Lib.hid hy
          generalize dr ds k j = D at *
          generalize bs.getD j 0#8 = bj at *
          generalize (k - 1) * j = F at *
          generalize (k - 1) * (j + 1) = T at *
          clear hCd hA' hy hi0 hsz0 hTM hFT hdl
          have HCC := Lib.hid hC'
          clear hC' HBw
          have HS0 := HS
          have HY0 : Hid (∀ p, p < n → Row.Is wr H (sl b L p) (yr bs ds k (xB p) (if p < 0 then j + 1 else j))) := fun p hp => by rw [if_neg (by omega)]; exact HY.out p hp
          have HB0 := HB
          clear HS HY HB
          go_wp2_with fail
          go_loopw [17, 81] (fun v17 v81 wl => ∃ (q : Nat), q ≤ n ∧ v81 = .int .i64 (q : Int) ∧ Hid (IsS wl H (.slice (some ⟨g, 0, none⟩) n c8) n b L) ∧ Hid (∀ p, p < n → Row.Is wl H (sl b L p) (yr bs ds k (xB p) (if p < q then j + 1 else j))) ∧ Hid (Below H w wl)) (fun _ v81 _ => n - (intOf v81).toNat)
          case atStart => exact ⟨0, by omega, rfl, HS0, HY0, HB0⟩
          case round =>
            clear HS0 HY0 HB0
            obtain ⟨q, hq, rfl, HS, HY, HB⟩ := hrel
            by_cases hql : q < n
            · obtain ⟨hx0, hx1⟩ := HS.out.cell q hql
              rw [← xB_int q (by omega)] at hx0
              have HLn : Hid ((yr bs ds k (xB q) (if q < q then j + 1 else j)).length = L) := by
                show _ = _
                rw [if_neg (Nat.lt_irrefl q), yr_len _ _ _ _ _ (by rw [HLL.out]; omega), HLL.out]
              obtain ⟨x, hx⟩ : ∃ x, xB q = x := ⟨_, rfl⟩
              have HXQ := Lib.hid hx
              rw [hx] at hx0
              clear hx
              have HEV : Hid (∀ W, Below H w W → Calls Try.prog 35 #[.slice A' D.length (T - F), .int .u8 (ofB x)] W fun e w' => e = .returned (.int .u8 (ofB (ev x D))) ∧ Drawn0 W w') := fun W hW => by
                have h1 := Kd.C_below HC.out (by rw [← HH.out]; exact hW)
                have h2 := PA.field_Eval.calls (D.length + 21) A' (T - F) (ints D) (ofB x) (ofB (ev x D)) W (by rw [ints_length]; exact h1) (by rw [ints_length]; exact HCC.out) (HE.out x)
                rwa [ints_length] at h2
              have HMU : Hid (∀ W, Calls Try.prog 34 #[.int .u8 (ofB x), .int .u8 (ofB (ev x D))] W fun e w' => e = .returned (.int .u8 (ofB (mul x (ev x D)))) ∧ Drawn0 W w') := fun W => PA.field_Mul.calls 9 _ _ _ W (AFn.mul_f (by decide) x (ev x D))
              have HAD : Hid (∀ W, Calls Try.prog 33 #[.int .u8 (ofB bj), .int .u8 (ofB (mul x (ev x D)))] W fun e w' => e = .returned (.int .u8 (ofB (bj ^^^ mul x (ev x D)))) ∧ Drawn0 W w') := fun W => PA.field_Add.calls _ _ _ W (by unfold PA.field_Add.f; rw [bits_xor])
              have HYB : Hid (ofB (bj ^^^ mul x (ev x D)) = ofB (yb bs ds k x j)) := congrArg ofB (Hy.out x).symm
              generalize ofB (bj ^^^ mul x (ev x D)) = y1 at *
              generalize ofB (mul x (ev x D)) = m1 at *
              generalize ofB (ev x D) = e1 at *
              unfold sl at hx1
              have HI : Hid (Inn w (wr.alloc (.cells #[.int .u8 (ofB x), .slice (some ⟨b q, 0, none⟩) L L] 44)) H wr.heap.size (.slice (some ⟨g, 0, none⟩) n c8) n b L (fun p => yr bs ds k (xB p) (if p < q then j + 1 else j)) x (b q)) :=
                ⟨HS.out.alloc _, fun p hp => (HY.out p hp).alloc _, HB.out.alloc (by have := HB.out.size; rw [HH.out]; exact this) _, Blk.Is.new wr _ _⟩
              clear HS HY HB
              go_wp2_with fail
              -- region 20
              refine start_ (n := 14) (S := fun w' => w'.cell? ⟨wr.heap.size, 1, none⟩ = some (.slice (some ⟨b q, 0, none⟩) L L) ∧ w'.cell? ⟨wr.heap.size, 0, none⟩ = some (.int .u8 (ofB x))) (ds := [13]) #[false, false, false, false, false, false, false, false, false, false, false, false, false, false] (by kernel_rfl) rfl rfl ⟨(HI.out.k.cell 1), (HI.out.k.cell 0)⟩ (fun hHeld => ?_)
              have HI1 := Lib.hid (HI.out.drewN 1)
              clear HI
              change Hid (Inn w (wr.alloc _).drew _ _ _ _ _ _ _ _ _) at HI1
              generalize (wr.alloc (.cells #[.int .u8 (ofB x), .slice (some ⟨b q, 0, none⟩) L L] 44)).drew = w1 at *
              refine pure_ (i := 0) (N := some 85) (v := ?_) (a' := ?_) #[true, false, false, false, false, false, false, false, false, false, false, false, false, false] rfl rfl (by kernel_rfl) (fun _ _ _ h => h) (Or.inl ⟨by rfl, ?_⟩) ?_ ?_
              rotate_left
              · intro w'
                go_simp
                with_reducible rfl
              rotate_left
              · simp only [Act.put, List.setIfInBounds_toArray, List.set_cons_zero, List.set_cons_succ, i64_w, i32_w]
                rfl
              refine pure_ (i := 2) (N := some 87) (v := ?_) (a' := ?_) #[true, false, true, false, false, false, false, false, false, false, false, false, false, false] rfl rfl (by kernel_rfl) (fun _ _ _ h => h) (Or.inl ⟨by rfl, ?_⟩) ?_ ?_
              rotate_left
              · intro w'
                go_simp
                with_reducible rfl
              rotate_left
              · simp only [Act.put, List.setIfInBounds_toArray, List.set_cons_zero, List.set_cons_succ, i64_w, i32_w]
                rfl
              refine pure_ (i := 3) (N := some 88) (v := ?_) (a' := ?_) #[true, false, true, true, false, false, false, false, false, false, false, false, false, false] rfl rfl (by kernel_rfl) (fun _ _ _ h => h) (Or.inl ⟨by rfl, ?_⟩) ?_ ?_
              rotate_left
              · intro w'
                go_simp
                with_reducible rfl
              rotate_left
              · simp only [Act.put, List.setIfInBounds_toArray, List.set_cons_zero, List.set_cons_succ, i64_w, i32_w]
                rfl
              refine pure_ (i := 4) (N := some 89) (v := ?_) (a' := ?_) #[true, false, true, true, true, false, false, false, false, false, false, false, false, false] rfl rfl (by kernel_rfl) (fun _ _ _ h => h) (Or.inl ⟨by rfl, ?_⟩) ?_ ?_
              rotate_left
              · intro w'
                go_simp
                with_reducible rfl
              rotate_left
              · simp only [Act.put, List.setIfInBounds_toArray, List.set_cons_zero, List.set_cons_succ, i64_w, i32_w]
                rfl
              refine pure_ (i := 6) (N := some 91) (v := ?_) (a' := ?_) #[true, false, true, true, true, false, true, false, false, false, false, false, false, false] rfl rfl (by kernel_rfl) (fun _ _ _ h => h) (Or.inl ⟨by rfl, ?_⟩) ?_ ?_
              rotate_left
              · intro w'
                go_simp
                with_reducible rfl
              rotate_left
              · simp only [Act.put, List.setIfInBounds_toArray, List.set_cons_zero, List.set_cons_succ, i64_w, i32_w]
                rfl
              refine pure_ (i := 7) (N := some 92) (v := ?_) (a' := ?_) #[true, false, true, true, true, false, true, true, false, false, false, false, false, false] rfl rfl (by kernel_rfl) (fun _ _ _ h => h) (Or.inl ⟨by rfl, ?_⟩) ?_ ?_
              rotate_left
              · intro w'
                go_simp
                with_reducible rfl
              rotate_left
              · simp only [Act.put, List.setIfInBounds_toArray, List.set_cons_zero, List.set_cons_succ, i64_w, i32_w]
                rfl
              refine take_ (i := 1) (N := some 86) (v := ?_) (a' := ?_) #[true, true, true, true, true, false, true, true, false, false, false, false, false, false] rfl rfl (by kernel_rfl) (fun _ _ _ h => h) (Or.inl ⟨by rfl, ?_⟩) hHeld ?_ ?_
              rotate_left
              · rintro w' ⟨s0, s1⟩
                go_simp
                with_reducible rfl
              rotate_left
              · simp only [Act.put, List.setIfInBounds_toArray, List.set_cons_zero, List.set_cons_succ, i64_w, i32_w]
                rfl
              refine take_ (i := 5) (N := some 90) (v := ?_) (a' := ?_) #[true, true, true, true, true, true, true, true, false, false, false, false, false, false] rfl rfl (by kernel_rfl) (fun _ _ _ h => h) (Or.inl ⟨by rfl, ?_⟩) hHeld ?_ ?_
              rotate_left
              · rintro w' ⟨s0, s1⟩
                go_simp
                with_reducible rfl
              rotate_left
              · simp only [Act.put, List.setIfInBounds_toArray, List.set_cons_zero, List.set_cons_succ, i64_w, i32_w]
                rfl
              refine take_ (i := 8) (N := some 93) (v := ?_) (a' := ?_) #[true, true, true, true, true, true, true, true, true, false, false, false, false, false] rfl rfl (by kernel_rfl) (fun _ _ _ h => h) (Or.inl ⟨by rfl, ?_⟩) hHeld ?_ ?_
              rotate_left
              · rintro w' ⟨s0, s1⟩
                go_simp
                with_reducible rfl
              rotate_left
              · simp only [Act.put, List.setIfInBounds_toArray, List.set_cons_zero, List.set_cons_succ, i64_w, i32_w]
                rfl
              refine one_ (i := 9) (N := some 94) #[true, true, true, true, true, true, true, true, true, true, false, false, false, false] rfl rfl (by kernel_rfl) (by decide) (fun K hK => ?_)
              refine goes_ Try.func35 (by kernel_rfl) rfl #[.slice A' D.length (T - F), .int .u8 (ofB x)] (by rfl) rfl rfl (by simp only [List.map_toArray, List.map_cons, List.map_nil]; rfl) ?_
              with_reducible refine (HEV.out w1 HI1.out.below).mono ?_
              rintro e w' ⟨rfl, ⟨nd, rfl⟩⟩
              refine ⟨_, rfl, ?_⟩
              have HI2 := Lib.hid (HI1.out.drewN nd)
              clear HI1
              generalize w1.drewN nd = w2 at *
              refine hK.out _ _ ⟨(HI2.out.k.cell 1), (HI2.out.k.cell 0)⟩ (fun hHeld => ?_)
              clear hK K
              refine norm_ (a' := ?_) ?_ ?_
              rotate_left
              · show Act.put _ (some 94) _ = _
                simp only [Act.put, List.setIfInBounds_toArray, List.set_cons_zero, List.set_cons_succ, i64_w, i32_w]
                rfl
              refine one_ (i := 10) (N := some 95) #[true, true, true, true, true, true, true, true, true, true, true, false, false, false] rfl rfl (by kernel_rfl) (by decide) (fun K hK => ?_)
              refine goes_ Try.func34 (by kernel_rfl) rfl #[.int .u8 (ofB x), .int .u8 e1] (by rfl) rfl rfl (by simp only [List.map_toArray, List.map_cons, List.map_nil]; rfl) ?_
              with_reducible refine (HMU.out w2).mono ?_
              rintro e w' ⟨rfl, ⟨nd, rfl⟩⟩
              refine ⟨_, rfl, ?_⟩
              have HI3 := Lib.hid (HI2.out.drewN nd)
              clear HI2
              generalize w2.drewN nd = w3 at *
              refine hK.out _ _ ⟨(HI3.out.k.cell 1), (HI3.out.k.cell 0)⟩ (fun hHeld => ?_)
              clear hK K
              refine norm_ (a' := ?_) ?_ ?_
              rotate_left
              · show Act.put _ (some 95) _ = _
                simp only [Act.put, List.setIfInBounds_toArray, List.set_cons_zero, List.set_cons_succ, i64_w, i32_w]
                rfl
              refine one_ (i := 11) (N := some 96) #[true, true, true, true, true, true, true, true, true, true, true, true, false, false] rfl rfl (by kernel_rfl) (by decide) (fun K hK => ?_)
              refine goes_ Try.func33 (by kernel_rfl) rfl #[.int .u8 (ofB bj), .int .u8 m1] (by rfl) rfl rfl (by simp only [List.map_toArray, List.map_cons, List.map_nil]; rfl) ?_
              with_reducible refine (HAD.out w3).mono ?_
              rintro e w' ⟨rfl, ⟨nd, rfl⟩⟩
              refine ⟨_, rfl, ?_⟩
              have HI4 := Lib.hid (HI3.out.drewN nd)
              clear HI3
              generalize w3.drewN nd = w4 at *
              refine hK.out _ _ ⟨(HI4.out.k.cell 1), (HI4.out.k.cell 0)⟩ (fun hHeld => ?_)
              clear hK K
              refine norm_ (a' := ?_) ?_ ?_
              rotate_left
              · show Act.put _ (some 96) _ = _
                simp only [Act.put, List.setIfInBounds_toArray, List.set_cons_zero, List.set_cons_succ, i64_w, i32_w]
                rfl
              refine pure_ (i := 12) (N := some 97) (v := ?_) (a' := ?_) #[true, true, true, true, true, true, true, true, true, true, true, true, true, false] rfl rfl (by kernel_rfl) (fun _ _ _ h => h) (Or.inl ⟨by rfl, ?_⟩) ?_ ?_
              rotate_left
              · intro w'
                go_simp
                with_reducible rfl
              rotate_left
              · simp only [Act.put, List.setIfInBounds_toArray, List.set_cons_zero, List.set_cons_succ, i64_w, i32_w]
                rfl
              refine last_ (i := 13) (N := none) #[true, true, true, true, true, true, true, true, true, true, true, true, true, true] rfl rfl (by kernel_rfl) (by decide) (fun K hK => ?_)
              have hst : Row.Is w4 H (.slice (some ⟨b q, 0, none⟩) L L) _ := HI4.out.y q hql
              obtain ⟨hs1, hs2⟩ := hst.cell j (by rw [HLn.out]; exact hjl)
              clear hst
              refine skip_ (w1 := ?_) (by rfl) rfl ?_ ?_
              rotate_left
              · go_simp
                rfl
              refine hK.out _ _ ?_
              clear hK K
              refine done_ (by kernel_rfl) ?_
              -- behind it
              obtain ⟨q1, q2, q3⟩ := set_step HI4.out.s HI4.out.y HI4.out.below HO.out q hql j y1
              have HS5 := Lib.hid q1
              have HB5 := Lib.hid q3
              have HY5 : Hid (∀ p, p < n → Row.Is (w4.setCell ⟨b q, j, none⟩ (.int .u8 y1)) H (sl b L p) (yr bs ds k (xB p) (if p < q + 1 then j + 1 else j))) := fun p hp => by
                have h := q2 p hp
                by_cases e : p = q
                · subst e
                  rw [if_pos rfl, if_neg (Nat.lt_irrefl p), HYB.out, HXQ.out, yr_set _ _ _ _ _ (by rw [HLL.out]; exact hjl), ← HYB.out] at h
                  rw [if_pos (by omega), HXQ.out]
                  exact h
                · rw [if_neg e] at h
                  by_cases e2 : p < q
                  · rw [if_pos e2] at h
                    rw [if_pos (by omega)]
                    exact h
                  · rw [if_neg e2] at h
                    rw [if_neg (by omega)]
                    exact h
              clear q1 q2 q3 HI4 HEV HMU HAD HYB
              go_wp2
              go_roundw
              case rel => exact ⟨q + 1, by omega, by go_num, HS5, HY5, HB5⟩
              case measure => simp [intOf]; omega
            · obtain rfl : n = q := by omega
              go_wp2
              go_roundw
              case rel => exact ⟨j + 1, by omega, by go_num, HS, fun p hp => by have := HY.out p hp; rw [if_pos hp] at this; exact this, HB⟩
              case measure => simp [intOf]; omega
        · obtain rfl : L = j := by omega
          go_wp2
          go_ret2
          exact ⟨_, b, rfl, by rw [← HH.out]; exact HS.out, fun q hq => by rw [← HH.out]; exact HY.out q hq, HO.out, by rw [← HH.out]; exact HB.out⟩
end Go.Proofs.Ytglnepokollijaa.Share
