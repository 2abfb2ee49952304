/- What is said here: share.Need tells how many shares more are needed; share.Combine puts shares together. -/
import Derived.Test.YtglnepokollijaaShare1
import Derived.Test.YtglnepokollijaaAtZero
import Derived.Lib.Hide
import Derived.Outline
import Derived.LoopTactic
import Derived.Deep.RegionHeld3
namespace Go.Proofs.Ytglnepokollijaa.Share
set_option linter.unusedVariables false
set_option linter.unusedSimpArgs false
open Go.RowKit Go.Proofs.Ytglnepokollijaa.Row Go.Proofs.YtglnepokollijaaW.PrintWords Go.Proofs.YtglnepokollijaaW.PrintLast Go.Proofs.YtglnepokollijaaW.PrintMore
open Gf Gfi Poly AtZero

/-- Shares that came in are read. -/
def ReadsS (W : World) (A : Option Addr) (n : Nat) (xs : Nat → B) (ls : Nat → List Int) : Prop :=
  0 < n → ∃ ad, A = some ad ∧ ∀ i, i < n → W.cell? (ad.add (i * 2)) = some (.int .u8 (ofB (xs i))) ∧ ∃ (C : Option Addr) (c : Nat), W.cell? ⟨(ad.add (i * 2)).block, (ad.add (i * 2)).off + 1, none⟩ = some (.slice C (ls i).length c) ∧ (ls i).length ≤ c ∧ Kd.C (Kd.int .u8) W C (ls i).length (ls i)
theorem ReadsS.below {W W' : World} {A : Option Addr} {n : Nat} {xs : Nat → B} {ls : Nat → List Int} (h : ReadsS W A n xs ls) (hb : Below W.heap.size W W') : ReadsS W' A n xs ls := by
  intro hn
  obtain ⟨ad, e, hc⟩ := h hn
  refine ⟨ad, e, fun i hi => ?_⟩
  obtain ⟨h1, C, c, h2, h3, h4⟩ := hc i hi
  exact ⟨(hb.cell (World.block_lt_of_cell? _ _ h1)).trans h1, C, c, (hb.cell (World.block_lt_of_cell? _ _ h2)).trans h2, h3, Kd.C_below h4 hb⟩
/-- The places that are not 0, each once. -/
def fr (xs : Nat → B) : Nat → List B
  | 0 => []
  | i + 1 => if xs i = 0#8 ∨ xs i ∈ fr xs i then fr xs i else fr xs i ++ [xs i]
theorem fr_len (xs : Nat → B) (i : Nat) : (fr xs i).length ≤ i := by
  induction i with
  | zero => exact Nat.le_refl _
  | succ i ih =>
    rw [fr]
    split
    · omega
    · rw [List.length_append, List.length_singleton]; omega
def need (xs : Nat → B) (n : Nat) (k : Int) : Int := if k ≤ ((fr xs n).length : Int) then 0 else k - ((fr xs n).length : Int)

set_option maxRecDepth 100000 in
set_option maxHeartbeats 4000000 in
theorem need_calls (A : Option Addr) (c n : Nat) (k : Int) (xs : Nat → B) (ls : Nat → List Int) (w : World) (h : ReadsS w A n xs ls) (hn : n ≤ 1000000000) (hk0 : -9223372036854775808 ≤ k) (hk1 : k ≤ 9223372036854775807) :
    Calls Try.prog 27 #[.slice A n c, .int .i64 k] w fun e w' => e = .returned (.int .i64 (need xs n k)) ∧ Below w.heap.size w w' := by
  have hz := zero38
  obtain ⟨r, hr⟩ : ∃ r, r = need xs n k := ⟨_, rfl⟩
  rw [← hr]
  have HRr := Lib.hid hr
  have H := Lib.hid h
  clear h hr
  go_enter Try.func27, Try.ntmps27
  go_wp2
  go_loopw [6, 8, 11] (fun v6 v8 v11 wr => ∃ (i : Nat), i ≤ n ∧ v6 = .int .i64 ((fr xs i).length : Int) ∧ v11 = .int .i64 (i : Int) ∧ Hid (Blk.Is wr w.heap.size (seenA (fr xs i)) 61) ∧ Hid (Below w.heap.size w wr)) (fun _ _ v11 _ => n - (intOf v11).toNat)
  case atStart => exact ⟨0, by omega, rfl, rfl, Blk.Is.new _ _ _, (Below.refl _ _).alloc (Nat.le_refl _) _⟩
  case round =>
    obtain ⟨i, hi, rfl, rfl, HS, HB⟩ := hrel
    by_cases hlt : i < n
    · obtain ⟨ad, rfl, hc⟩ := H.out (by omega)
      obtain ⟨hx0, C, cc, hx1, _, _⟩ := hc i hlt
      have hx0 := (HB.out.cell (World.block_lt_of_cell? _ _ hx0)).trans hx0
      have hx1 := (HB.out.cell (World.block_lt_of_cell? _ _ hx1)).trans hx1
      have hfl := fr_len xs i
      have hfs : Hid (fr xs (i + 1) = if xs i = 0#8 ∨ xs i ∈ fr xs i then fr xs i else fr xs i ++ [xs i]) := rfl
      have hge := seenA_get (fr xs i) (xs i)
      have hse := seenA_set (fr xs i) (xs i)
      clear hc
      generalize xs i = x at *
      generalize fr xs i = pre at *
      have HS1 := Lib.hid (HS.out.alloc (.cells #[.int .u8 (ofB x), .slice C (ls i).length cc] 44))
      have HB1 := Lib.hid (HB.out.alloc HB.out.size (.cells #[.int .u8 (ofB x), .slice C (ls i).length cc] 44))
      have hs := (HS1.out.cell x.toNat).trans hge
      have hf := HS1.out.free x.toNat
      have Hse := Lib.hid hse
      have HR := ofB_range x
      have hr1 := HR.1
      have hr2 := HR.2
      have ex : x.toNat = (ofB x).toNat := by simp [ofB]
      rw [ex] at hs hf
      clear hge hse HR HS HB
      by_cases hx : x = 0#8
      · have hxz : (ofB x != 0) = false := bne_eq_false_iff_eq.mpr (by rw [hx]; rfl)
        have hp : fr xs (i + 1) = pre := by rw [hfs.out, if_pos (Or.inl hx)]
        have HP := Lib.hid hp
        clear hx hp hfs hs hf
        go_wp2
        go_roundw
        case rel => exact ⟨i + 1, by omega, by rw [HP.out], by go_num, by rw [HP.out]; exact HS1.out, HB1.out⟩
        case measure => simp [intOf]; omega
      · have hxz : (ofB x != 0) = true := bne_iff_ne.mpr (fun e => hx (ofB_eq_zero.1 e))
        by_cases hm : x ∈ pre
        · rw [decide_eq_true hm] at hs
          have hp : fr xs (i + 1) = pre := by rw [hfs.out, if_pos (Or.inr hm)]
          have HP := Lib.hid hp
          clear hx hp hfs hm
          go_wp2
          go_roundw
          case rel => exact ⟨i + 1, by omega, by rw [HP.out], by go_num, by rw [HP.out]; exact HS1.out, HB1.out⟩
          case measure => simp [intOf]; omega
        · rw [decide_eq_false hm] at hs
          have hp : fr xs (i + 1) = pre ++ [x] := by rw [hfs.out, if_neg (fun h => h.elim hx hm)]
          have HP := Lib.hid hp
          clear hx hp hfs hm
          go_wp2
          go_roundw
          case rel => exact ⟨i + 1, by omega, by rw [HP.out, List.length_append]; go_num, by go_num, by rw [HP.out, ← Hse.out, ex]; exact HS1.out.set _ _, HB1.out.setCell (Nat.le_refl _) _⟩
          case measure => simp [intOf]; omega
    · obtain rfl : n = i := by omega
      have hfl := fr_len xs n
      have HE : Hid (r = if k ≤ ((fr xs n).length : Int) then 0 else k - ((fr xs n).length : Int)) := HRr.out
      clear HRr hlt hi
      generalize (fr xs n).length = m at *
      by_cases hkm : k ≤ (m : Int)
      · have he : r = 0 := by rw [HE.out, if_pos hkm]
        subst he
        clear HE
        go_wp2
        go_ret
        exact ⟨rfl, HB.out⟩
      · have he : r = k - (m : Int) := by rw [HE.out, if_neg hkm]
        subst he
        clear HE
        have hw : IntKind.i64.wrap (k - (m : Int)) = k - (m : Int) := IntWalk.i64_in _ (by omega)
        go_wp2
        go_ret
        exact ⟨rfl, HB.out⟩
end Go.Proofs.Ytglnepokollijaa.Share

namespace Go.Proofs.Ytglnepokollijaa.Share
set_option linter.unusedVariables false
set_option linter.unusedSimpArgs false
open Go.RowKit Go.Proofs.Ytglnepokollijaa.Row Go.Proofs.YtglnepokollijaaW.PrintWords Go.Proofs.YtglnepokollijaaW.PrintLast Go.Proofs.YtglnepokollijaaW.PrintMore
open Gf Gfi Poly AtZero

set_option maxRecDepth 100000 in
set_option maxHeartbeats 4000000 in
theorem combine_few (A : Option Addr) (c n : Nat) (w : World) (hn : n = 0 ∨ 16 < n) (hm : n ≤ 1000000000) :
    Calls Try.prog 24 #[.slice A n c] w fun e w' => e = .returned (.tuple #[.slice none 0 0, .int .i64 2]) ∧ Below w.heap.size w w' := by
  by_cases h0 : n = 0
  · subst h0
    clear hn
    go_enter Try.func24, Try.ntmps24
    go_wp2
    go_ret2
    exact ⟨rfl, Below.refl _ _⟩
  · have h1 : 16 < n := by omega
    clear hn
    go_enter Try.func24, Try.ntmps24
    go_wp2
    go_ret2
    exact ⟨rfl, Below.refl _ _⟩
/-- A row that make has made. -/
theorem made (W : World) (base n : Nat) (hb : base ≤ W.heap.size) (hn : n ≤ 1000000) : Row.Is (W.alloc (.cells (madeCells #[.int .u8 0] n) 5)) base (.slice (some ⟨W.heap.size, 0, none⟩) n n) (List.replicate n 0) := by
  have e : (madeCells #[Value.int .u8 0] n).toList = encs (Value.int .u8) (List.replicate n 0) := by
    apply List.ext_getElem
    · simp [madeCells, encs]
    · intro i h1 h2
      simp [madeCells, encs, Nat.mod_one]
  unfold Row.Is
  rw [List.length_replicate]
  refine ⟨by rw [encs_length, List.length_replicate, Nat.mul_one], .inr ⟨W.heap.size, n, _, rfl, hb, heap_alloc_new W _, Nat.le_refl _, by unfold maxLen; omega, by rw [size_madeCells, Nat.mul_one], ?_⟩⟩
  rw [e, Nat.mul_one, List.take_of_length_le (by rw [encs_length, List.length_replicate]; exact Nat.le_refl _)]
def pre (xs : Nat → B) (i : Nat) : List B := (List.range i).map xs
theorem pre_succ (xs : Nat → B) (i : Nat) : pre xs (i + 1) = pre xs i ++ [xs i] := by unfold pre; rw [List.range_succ, List.map_append]; rfl
theorem pre_len (xs : Nat → B) (i : Nat) : (pre xs i).length = i := by unfold pre; rw [List.length_map, List.length_range]
/-- Shares that may be put together, as far as i. -/
def goodS (xs : Nat → B) (bs : Nat → List B) : Nat → Prop
  | 0 => True
  | i + 1 => goodS xs bs i ∧ xs i ≠ 0#8 ∧ xs i ∉ pre xs i ∧ (bs i).length = (bs 0).length
theorem good_le (xs : Nat → B) (bs : Nat → List B) (i n : Nat) (h : i ≤ n) (hg : goodS xs bs n) : goodS xs bs i := by
  induction n with
  | zero => obtain rfl : i = 0 := by omega
            exact hg
  | succ n ih =>
    by_cases e : i = n + 1
    · subst e; exact hg
    · exact ih (by omega) hg.1
/-- Byte j of all shares. -/
def col (bs : Nat → List B) (n j : Nat) : List B := (List.range n).map fun q => (bs q).getD j 0#8
/-- The secret, as far as byte j. -/
def outL (xs : Nat → B) (bs : Nat → List B) (n j : Nat) : List Int := (List.range j).map fun j => (res (pre xs n) (col bs n j)).1
theorem pre_set (xs : Nat → B) (i n : Nat) (h : i < n) : (ints (pre xs i) ++ List.replicate (n - i) (0 : Int)).set i (ofB (xs i)) = ints (pre xs (i + 1)) ++ List.replicate (n - (i + 1)) 0 := by
  have hl : (ints (pre xs i)).length = i := by rw [ints_length, pre_len]
  rw [List.set_append_right _ _ (by omega), hl, Nat.sub_self, show n - i = (n - (i + 1)) + 1 by omega, List.replicate_succ, List.set_cons_zero, pre_succ, ints, ints, List.map_append, List.append_assoc]
  rfl
theorem col_eq (bs : Nat → List B) (n j : Nat) (l : List Int) (hl : l.length = n) (h : ∀ p, p < n → l.getD p 0 = ofB ((bs p).getD j 0#8)) : l = ints (col bs n j) := by
  apply List.ext_getElem
  · rw [hl, ints_length, col, List.length_map, List.length_range]
  · intro p h1 h2
    have := h p (by omega)
    rw [List.getD_eq_getElem?_getD, List.getElem?_eq_getElem h1] at this
    simp only [Option.getD_some] at this
    rw [this]
    simp [ints, col]
theorem outL_succ (xs : Nat → B) (bs : Nat → List B) (n j : Nat) : outL xs bs n (j + 1) = outL xs bs n j ++ [(res (pre xs n) (col bs n j)).1] := by
  unfold outL; rw [List.range_succ, List.map_append]; rfl
instance decGood (xs : Nat → B) (bs : Nat → List B) : (i : Nat) → Decidable (goodS xs bs i)
  | 0 => isTrue trivial
  | i + 1 => haveI := decGood xs bs i; inferInstanceAs (Decidable (goodS xs bs i ∧ xs i ≠ 0#8 ∧ xs i ∉ pre xs i ∧ (bs i).length = (bs 0).length))
def combL (xs : Nat → B) (bs : Nat → List B) (n : Nat) : List Int := if goodS xs bs n then outL xs bs n (bs 0).length else []
def combE (xs : Nat → B) (bs : Nat → List B) (n : Nat) : Int := if goodS xs bs n then 0 else 40
set_option maxRecDepth 100000 in
set_option maxHeartbeats 8000000 in
theorem combine_calls (A : Option Addr) (c n : Nat) (xs : Nat → B) (bs : Nat → List B) (w : World) (h : ReadsS w A n xs (fun q => ints (bs q))) (hn0 : 0 < n) (hn : n ≤ 16) (hls : ∀ q, q < n → (bs q).length ≤ 1024) :
    Calls Try.prog 24 #[.slice A n c] w fun e w' => ∃ v, e = .returned (.tuple #[v, .int .i64 (combE xs bs n)]) ∧ Row.Is w' w.heap.size v (combL xs bs n) ∧ Below w.heap.size w w' := by
  have hz := zero38
  obtain ⟨rl, hrl⟩ : ∃ rl, rl = combL xs bs n := ⟨_, rfl⟩
  obtain ⟨re, hre⟩ : ∃ re, re = combE xs bs n := ⟨_, rfl⟩
  rw [← hrl, ← hre]
  have HRL := Lib.hid hrl
  have HRE := Lib.hid hre
  have H := Lib.hid h
  have HLS := Lib.hid hls
  have hnz : ((n : Int) == 0) = false := beq_eq_false_iff_ne.mpr (by omega)
  clear h hls hrl hre
  go_enter Try.func24, Try.ntmps24
  go_wp2_with fail
  go_loopw [2, 3, 5, 26] (fun v2 v3 v5 v26 wr => ∃ (i : Nat), i ≤ n ∧ v2 = .slice none 0 0 ∧ v3 = .int .i64 0 ∧ v26 = .int .i64 (i : Int) ∧ Hid (Below w.heap.size w wr)) (fun _ _ _ v26 _ => n - (intOf v26).toNat)
  case atStart => exact ⟨0, by omega, rfl, rfl, rfl, Below.refl _ _⟩
  case round =>
    obtain ⟨i, hi, rfl, rfl, rfl, HB⟩ := hrel
    by_cases hlt : i < n
    · obtain ⟨ad, rfl, hc⟩ := H.out (by omega)
      obtain ⟨hx0, C, cc, hx1, _, _⟩ := hc i hlt
      have hx0 := (HB.out.cell (World.block_lt_of_cell? _ _ hx0)).trans hx0
      have hx1 := (HB.out.cell (World.block_lt_of_cell? _ _ hx1)).trans hx1
      have hle := HLS.out i hlt
      rw [ints_length] at hx1
      clear hc
      generalize xs i = x at *
      have HB1 := Lib.hid (HB.out.alloc HB.out.size (.cells #[.int .u8 (ofB x), .slice C (bs i).length cc] 44))
      clear HB
      generalize (bs i).length = L at *
      go_wp2
      go_roundw
      case rel => exact ⟨i + 1, by omega, rfl, rfl, by go_num, HB1⟩
      case measure => simp [intOf]; omega
    · obtain rfl : n = i := by omega
      have hmk : ∀ W : World, (Instr.makeSlice 22 (.int .i64 (n : Int)) (.int .i64 (n : Int))).run Try.prog W = .ok (.slice (some ⟨W.heap.size, 0, none⟩) n n) (W.alloc (.cells (madeCells #[.int .u8 0] n) 5)) :=
        fun W => run_make_row' 22 5 (.int .u8 0) 1 Try.underlying22 Row.infoB rfl .i64 .i64 n (by omega) (by omega) W
      go_upto_region 10 with fail
      go_cut [7, 8] (fun v7 v8 wc => ∃ gx gy : Nat, v7 = .slice (some ⟨gx, 0, none⟩) n n ∧ v8 = .slice (some ⟨gy, 0, none⟩) n n ∧ Hid (Blk.Is wc wr.heap.size (seenA []) 61) ∧ Hid (Row.Is wc w.heap.size (.slice (some ⟨gx, 0, none⟩) n n) (List.replicate n 0)) ∧ Hid (Row.Is wc w.heap.size (.slice (some ⟨gy, 0, none⟩) n n) (List.replicate n 0)) ∧ Hid (gx ≠ gy) ∧ Hid (wr.heap.size ≠ gx ∧ wr.heap.size ≠ gy) ∧ Hid (Below w.heap.size w wc))
      case first =>
        have hb0 : Below w.heap.size w (((wr.alloc (.cells (seenA []) 61)).alloc (.cells (madeCells #[.int .u8 0] n) 5)).alloc (.cells (madeCells #[.int .u8 0] n) 5)) :=
          ((HB.out.alloc HB.out.size _).alloc (by have := HB.out.size; simp; omega) _).alloc (by have := HB.out.size; simp; omega) _
        have hs0 : Blk.Is (((wr.alloc (.cells (seenA []) 61)).alloc (.cells (madeCells #[.int .u8 0] n) 5)).alloc (.cells (madeCells #[.int .u8 0] n) 5)) wr.heap.size (seenA []) 61 := ((Blk.Is.new wr _ _).alloc _).alloc _
        have h1 : Row.Is (((wr.alloc (.cells (seenA []) 61)).alloc (.cells (madeCells #[.int .u8 0] n) 5)).alloc (.cells (madeCells #[.int .u8 0] n) 5)) w.heap.size (.slice (some ⟨wr.heap.size + 1, 0, none⟩) n n) (List.replicate n 0) := by
          have := (made (wr.alloc (.cells (seenA []) 61)) w.heap.size n (by have := HB.out.size; simp; omega) (by omega)).alloc (.cells (madeCells #[.int .u8 0] n) 5)
          rwa [World.size_alloc] at this
        have h2 : Row.Is (((wr.alloc (.cells (seenA []) 61)).alloc (.cells (madeCells #[.int .u8 0] n) 5)).alloc (.cells (madeCells #[.int .u8 0] n) 5)) w.heap.size (.slice (some ⟨wr.heap.size + 1 + 1, 0, none⟩) n n) (List.replicate n 0) := by
          have := made ((wr.alloc (.cells (seenA []) 61)).alloc (.cells (madeCells #[.int .u8 0] n) 5)) w.heap.size n (by have := HB.out.size; simp; omega) (by omega)
          rwa [World.size_alloc, World.size_alloc] at this
        have HB0 := Lib.hid hb0
        have HS0 := Lib.hid hs0
        have H1 := Lib.hid h1
        have H2 := Lib.hid h2
        clear hb0 hs0 h1 h2
        go_region
        · go_wp2
          go_meet
          case rel => exact ⟨_, _, rfl, rfl, HS0.out, H1.out, H2.out, by show _ ≠ _; omega, by show _ ∧ _; omega, pw_below_drewN HB0.out 1⟩
        · go_wp2
          go_meet
          case rel => exact ⟨_, _, rfl, rfl, HS0.out, H2.out, H1.out, by show _ ≠ _; omega, by show _ ∧ _; omega, pw_below_drewN HB0.out 1⟩
      case rest =>
        obtain ⟨gx, gy, rfl, rfl, HS, HX, HY, HN, HM, HB'⟩ := hcut
        have HSB : Hid (w.heap.size ≤ wr.heap.size) := HB.out.size
        clear HB hmk hz
        generalize wr.heap.size = sb at *
        have HX0 : Hid (Row.Is wc w.heap.size (.slice (some ⟨gx, 0, none⟩) n n) (ints (pre xs 0) ++ List.replicate (n - 0) 0)) := HX.out
        have HS0 : Hid (Blk.Is wc sb (seenA (pre xs 0)) 61) := HS.out
        clear HX HS
        go_wp2_with fail
        go_loopw [2, 3, 9, 10, 43] (fun v2 v3 v9 v10 v43 wl => ∃ (i : Nat), i ≤ n ∧ v2 = .slice none 0 0 ∧ v3 = .int .i64 0 ∧ v43 = .int .i64 (i : Int) ∧ Hid (goodS xs bs i) ∧ Hid (Blk.Is wl sb (seenA (pre xs i)) 61) ∧ Hid (Row.Is wl w.heap.size (.slice (some ⟨gx, 0, none⟩) n n) (ints (pre xs i) ++ List.replicate (n - i) 0)) ∧ Hid (Row.Is wl w.heap.size (.slice (some ⟨gy, 0, none⟩) n n) (List.replicate n 0)) ∧ Hid (Below w.heap.size w wl)) (fun _ _ _ _ v43 _ => n - (intOf v43).toNat)
        case atStart => exact ⟨0, by omega, rfl, rfl, rfl, trivial, HS0, HX0, HY, HB'⟩
        case round =>
          clear HS0 HX0 HY HB'
          obtain ⟨i, hi, rfl, rfl, rfl, HG, HS, HX, HY, HB⟩ := hrel
          by_cases hlt : i < n
          · obtain ⟨ad, rfl, hc⟩ := H.out (by omega)
            obtain ⟨hx0, C, cc, hx1, _, _⟩ := hc i hlt
            obtain ⟨_, C0, cc0, hy1, _, _⟩ := hc 0 hn0
            have hx0 := (HB.out.cell (World.block_lt_of_cell? _ _ hx0)).trans hx0
            have hx1 := (HB.out.cell (World.block_lt_of_cell? _ _ hx1)).trans hx1
            have hy1 := (HB.out.cell (World.block_lt_of_cell? _ _ hy1)).trans hy1
            have hle := HLS.out i hlt
            have hle0 := HLS.out 0 hn0
            rw [ints_length] at hx1 hy1
            rw [show ad.add (0 * 2) = ad by simp [Addr.add]] at hy1
            have hy2 : (wr.alloc (.cells #[.int .u8 (ofB (xs i)), .slice C (bs i).length cc] 44)).cell? ⟨ad.block, ad.off + 1, none⟩ = some (.slice C0 (bs 0).length cc0) :=
              (((Below.refl wr.heap.size wr).alloc (Nat.le_refl _) _).cell (World.block_lt_of_cell? _ _ hy1)).trans hy1
            clear hc
            have hge := seenA_get (pre xs i) (xs i)
            have hse := seenA_set (pre xs i) (xs i)
            rw [← pre_succ] at hse
            have hps := pre_set xs i n hlt
            have HGS : Hid (goodS xs bs (i + 1) ↔ goodS xs bs i ∧ xs i ≠ 0#8 ∧ xs i ∉ pre xs i ∧ (bs i).length = (bs 0).length) := Iff.rfl
            have HGN : Hid (goodS xs bs n → goodS xs bs (i + 1)) := good_le xs bs (i + 1) n (by omega)
            generalize xs i = x at *
            have HW : Hid (sb < wr.heap.size) := HS.out.lt
            have HWX : Hid (gx < wr.heap.size) := (HX.out.lt gx rfl).2
            have HGX : Hid (w.heap.size ≤ gx) := (HX.out.lt gx rfl).1
            have HS1 := Lib.hid (HS.out.alloc (.cells #[.int .u8 (ofB x), .slice C (bs i).length cc] 44))
            have HX1 := Lib.hid (HX.out.alloc (.cells #[.int .u8 (ofB x), .slice C (bs i).length cc] 44))
            have HY1 := Lib.hid (HY.out.alloc (.cells #[.int .u8 (ofB x), .slice C (bs i).length cc] 44))
            have HB1 := Lib.hid (HB.out.alloc HB.out.size (.cells #[.int .u8 (ofB x), .slice C (bs i).length cc] 44))
            have hs := (HS1.out.cell x.toNat).trans hge
            have hf := HS1.out.free x.toNat
            obtain ⟨hr0, hr1'⟩ := HX1.out.cell i (by rw [List.length_append, ints_length, pre_len, List.length_replicate]; omega)
            have Hse := Lib.hid hse
            have Hps := Lib.hid hps
            have HR := ofB_range x
            have hr1 := HR.1
            have hr2 := HR.2
            have ex : x.toNat = (ofB x).toNat := by simp [ofB]
            rw [ex] at hs hf
            clear hge hse hps HR HS HX HY HB
            generalize (ints (pre xs i) ++ List.replicate (n - i) (0 : Int)).getD i 0 = old at *
            generalize (bs i).length = Li at *
            generalize (bs 0).length = L0 at *
            have HbadL : Hid (¬ goodS xs bs n → rl = [] ∧ re = 40) := fun hb => ⟨by rw [HRL.out]; unfold combL; rw [if_neg hb], by rw [HRE.out]; unfold combE; rw [if_neg hb]⟩
            by_cases hx : x = 0#8
            · have hxz : (ofB x == 0) = true := beq_iff_eq.mpr (by rw [hx]; rfl)
              obtain ⟨rfl, rfl⟩ := HbadL.out (fun hg => (HGS.out.1 (HGN.out hg)).2.1 hx)
              clear hx HGS HGN HG
              go_wp2
              go_quiet (fail)
              go_wp2
              go_ret2
              exact ⟨_, rfl, Row.Is.nil _ _, pw_below_drewN HB1.out _⟩
            · have hxz : (ofB x == 0) = false := beq_eq_false_iff_ne.mpr (fun e => hx (ofB_eq_zero.1 e))
              by_cases hm : x ∈ pre xs i
              · rw [decide_eq_true hm] at hs
                obtain ⟨rfl, rfl⟩ := HbadL.out (fun hg => (HGS.out.1 (HGN.out hg)).2.2.1 hm)
                clear hx hm HGS HGN HG
                go_wp2
                go_quiet (fail)
                go_wp2
                go_ret2
                exact ⟨_, rfl, Row.Is.nil _ _, pw_below_drewN HB1.out _⟩
              · rw [decide_eq_false hm] at hs
                by_cases hL : Li = L0
                · subst hL
                  have HGI : Hid (goodS xs bs (i + 1)) := HGS.out.2 ⟨HG.out, hx, hm, rfl⟩
                  have hne1 : wr.heap.size ≠ sb := Nat.ne_of_gt HW.out
                  have hne2 : sb ≠ wr.heap.size := Nat.ne_of_lt HW.out
                  have hne3 : sb ≠ gx := HM.out.1
                  have hne4 : gx ≠ sb := Ne.symm HM.out.1
                  have hne5 : wr.heap.size ≠ gx := Nat.ne_of_gt HWX.out
                  have hne6 : gx ≠ wr.heap.size := Nat.ne_of_lt HWX.out
                  clear hx hm HGS HGN HG HbadL
                  go_wp2
                  go_quiet (fail)
                  go_wp2
                  go_roundw
                  case rel => exact ⟨i + 1, by omega, rfl, rfl, by go_num, HGI.out, by rw [← Hse.out, ex]; exact ((HS1.out.drewN _).set _ _).other (by exact hne3) _, by rw [← Hps.out]; exact Row.Is.store ((HX1.out.drewN _).other (by simpa [Value.ownBlock] using hne4) _) i _, ((HY1.out.drewN _).other (by simpa [Value.ownBlock] using Ne.symm HM.out.2) _).other (by simpa [Value.ownBlock] using Ne.symm HN.out) _, ((pw_below_drewN HB1.out _).setCell HSB.out _).setCell HGX.out _⟩
                  case measure => simp [intOf]; omega
                · have hne : ((Li : Int) != (L0 : Int)) = true := bne_iff_ne.mpr (by omega)
                  obtain ⟨rfl, rfl⟩ := HbadL.out (fun hg => hL (HGS.out.1 (HGN.out hg)).2.2.2)
                  clear hx hm HGS HGN HG hL
                  go_wp2
                  go_quiet (fail)
                  go_wp2
                  go_ret2
                  exact ⟨_, rfl, Row.Is.nil _ _, pw_below_drewN HB1.out _⟩
          · obtain rfl : n = i := by omega
            have hrl : rl = outL xs bs n (bs 0).length := by rw [HRL.out]; unfold combL; rw [if_pos HG.out]
            have hre : re = 0 := by rw [HRE.out]; unfold combE; rw [if_pos HG.out]
            subst hre
            have HRL2 := Lib.hid hrl
            obtain ⟨ad, rfl, hc⟩ := H.out hn0
            obtain ⟨_, C0, cc0, hy1, _, _⟩ := hc 0 hn0
            have hy1 := (HB.out.cell (World.block_lt_of_cell? _ _ hy1)).trans hy1
            rw [show ad.add (0 * 2) = ad by simp [Addr.add], ints_length] at hy1
            have hle0 := HLS.out 0 hn0
            have HX3 : Hid (Row.Is wr w.heap.size (.slice (some ⟨gx, 0, none⟩) n n) (ints (pre xs n))) := by have := HX.out; rw [Nat.sub_self, List.replicate_zero, List.append_nil] at this; exact this
            have HY3 : Hid (∃ l : List Int, l.length = n ∧ Row.Is wr w.heap.size (.slice (some ⟨gy, 0, none⟩) n n) l) := ⟨_, List.length_replicate, HY.out⟩
            have HGL : Hid (∀ p, p < n → (bs p).length = (bs 0).length) := fun p hp => (good_le xs bs (p + 1) n (by omega) HG.out).2.2.2
            obtain ⟨H2, hH2⟩ : ∃ H2, H2 = wr.heap.size := ⟨_, rfl⟩
            have HGX : Hid (gx < H2 ∧ gy < H2) := ⟨by rw [hH2]; exact (HX.out.lt gx rfl).2, by rw [hH2]; exact (HY.out.lt gy rfl).2⟩
            have HWH : Hid (w.heap.size ≤ H2) := by show _ ≤ _; rw [hH2]; exact HB.out.size
            have HH2 : Hid (H2 ≤ wr.heap.size) := by show _ ≤ _; omega
            clear hrl hc HX HY HRL HRE HG HS hH2
            obtain ⟨L0, hL0⟩ : ∃ L0, (bs 0).length = L0 := ⟨_, rfl⟩
            rw [hL0] at hy1 hle0 HRL2 HGL
            clear hL0
            go_wp2_with fail
            go_loopw [2, 11, 12, 13, 14, 15, 82] (fun v2 v11 v12 v13 v14 v15 v82 wl => ∃ (j : Nat), j ≤ L0 ∧ v82 = .int .i64 (j : Int) ∧ Hid (Row.Is wl H2 v2 (outL xs bs n j)) ∧ Hid (Row.Is wl w.heap.size (.slice (some ⟨gx, 0, none⟩) n n) (ints (pre xs n))) ∧ Hid (∃ l : List Int, l.length = n ∧ Row.Is wl w.heap.size (.slice (some ⟨gy, 0, none⟩) n n) l) ∧ Hid (Below w.heap.size w wl) ∧ Hid (H2 ≤ wl.heap.size)) (fun _ _ _ _ _ _ v82 _ => L0 - (intOf v82).toNat)
            case atStart => exact ⟨0, by omega, rfl, Row.Is.nil _ _, HX3, HY3, HB, HH2⟩
            case round =>
              clear HX3 HY3 HB HH2 hy1
              obtain ⟨j, hj, rfl, HV, HX, HY, HB, HK⟩ := hrel
              by_cases hjl : j < L0
              · have HY0 : Hid (∃ l : List Int, l.length = n ∧ (∀ p, p < 0 → l.getD p 0 = ofB ((bs p).getD j 0#8)) ∧ Row.Is wr w.heap.size (.slice (some ⟨gy, 0, none⟩) n n) l) := by
                  obtain ⟨l, h1, h2⟩ := HY.out
                  exact ⟨l, h1, fun p hp => absurd hp (Nat.not_lt_zero p), h2⟩
                clear HY
                go_wp2_with fail
                go_loopw [12, 13, 87] (fun v12 v13 v87 wl => ∃ (i : Nat), i ≤ n ∧ v87 = .int .i64 (i : Int) ∧ Hid (Row.Is wl H2 u2 (outL xs bs n j)) ∧ Hid (Row.Is wl w.heap.size (.slice (some ⟨gx, 0, none⟩) n n) (ints (pre xs n))) ∧ Hid (∃ l : List Int, l.length = n ∧ (∀ p, p < i → l.getD p 0 = ofB ((bs p).getD j 0#8)) ∧ Row.Is wl w.heap.size (.slice (some ⟨gy, 0, none⟩) n n) l) ∧ Hid (Below w.heap.size w wl) ∧ Hid (H2 ≤ wl.heap.size)) (fun _ _ v87 _ => n - (intOf v87).toNat)
                case atStart => exact ⟨0, by omega, rfl, HV, HX, HY0, HB, HK⟩
                case round =>
                  clear HV HX HY0 HB HK
                  obtain ⟨i, hi, rfl, HV, HX, HY, HB, HK⟩ := hrel
                  by_cases hlt : i < n
                  · obtain ⟨ad, e0, hc⟩ := H.out hn0
                    injection e0 with e0
                    subst e0
                    obtain ⟨hx0, C, cc, hx1, hcc, hkc⟩ := hc i hlt
                    have hx0 := (HB.out.cell (World.block_lt_of_cell? _ _ hx0)).trans hx0
                    have hx1 := (HB.out.cell (World.block_lt_of_cell? _ _ hx1)).trans hx1
                    rw [ints_length] at hx1
                    have hli := HGL.out i hlt
                    obtain ⟨ay, rfl, hry⟩ := reads_at hkc (by omega)
                    have hz0 := hry j (by omega)
                    have hz1 := (HB.out.cell (World.block_lt_of_cell? _ _ hz0)).trans hz0
                    have hz2 : (wr.alloc (.cells #[.int .u8 (ofB (xs i)), .slice (some ay) (bs i).length cc] 44)).cell? (ay.add j) = some (.int .u8 (ofB ((bs i).getD j 0#8))) :=
                      (((Below.refl wr.heap.size wr).alloc (Nat.le_refl _) _).cell (World.block_lt_of_cell? _ _ hz1)).trans hz1
                    rw [hli] at hx1 hz2
                    obtain ⟨l, hl, hlp, hlI⟩ := HY.out
                    have HV1 := Lib.hid (HV.out.alloc (.cells #[.int .u8 (ofB (xs i)), .slice (some ay) L0 cc] 44))
                    have HX1 := Lib.hid (HX.out.alloc (.cells #[.int .u8 (ofB (xs i)), .slice (some ay) L0 cc] 44))
                    have HY1 := Lib.hid (hlI.alloc (.cells #[.int .u8 (ofB (xs i)), .slice (some ay) L0 cc] 44))
                    have HB1 := Lib.hid (HB.out.alloc HB.out.size (.cells #[.int .u8 (ofB (xs i)), .slice (some ay) L0 cc] 44))
                    have HK1 : Hid (H2 ≤ (wr.alloc (.cells #[.int .u8 (ofB (xs i)), .slice (some ay) L0 cc] 44)).heap.size) := by show _ ≤ _; have := HK.out; simp; omega
                    have HGY : Hid (w.heap.size ≤ gy ∧ gy < wr.heap.size) := hlI.lt gy rfl
                    obtain ⟨hr0, hr1'⟩ := HY1.out.cell i (by omega)
                    have HL := Lib.hid hl
                    have HLP := Lib.hid hlp
                    have hn1 : wr.heap.size ≠ gy := Nat.ne_of_gt HGY.out.2
                    have hn2 : gy ≠ wr.heap.size := Nat.ne_of_lt HGY.out.2
                    clear hc hkc hry hz0 hz1 hl hlp hlI HV HX HY HB HK hcc hli
                    generalize l.getD i 0 = old at *
                    obtain ⟨y, hy⟩ : ∃ y, ofB ((bs i).getD j 0#8) = y := ⟨_, rfl⟩
                    have HYV := Lib.hid hy
                    rw [hy] at hz2
                    clear hy
                    generalize ofB (xs i) = x at *
                    go_wp2
                    go_roundw
                    case rel => exact ⟨i + 1, by omega, by go_num, HV1.out.other (fun e => by have h1 := (HV1.out.lt gy e).1; have h2 := HGX.out.2; omega) _, HX1.out.other (by simpa [Value.ownBlock] using HN.out) _, ⟨l.set i y, by rw [List.length_set]; exact HL.out, fun p hp => by
                      by_cases e : p = i
                      · subst e
                        rw [List.getD_eq_getElem?_getD, List.getElem?_set_self (by rw [HL.out]; exact hlt), HYV.out]
                        rfl
                      · rw [List.getD_eq_getElem?_getD, List.getElem?_set_ne (by omega), ← List.getD_eq_getElem?_getD]
                        exact HLP.out p (by omega), Row.Is.store HY1.out i y⟩, HB1.out.setCell HGY.out.1 _, Nat.le_trans HK1.out ((Below.refl 0 _).setCell (Nat.zero_le _) _).size⟩
                    case measure => simp [intOf]; omega
                  · obtain rfl : n = i := by omega
                    obtain ⟨l, hl, hlp, hlI⟩ := HY.out
                    obtain rfl := col_eq bs n j l hl hlp
                    have k1 := HX.out.reads'.2.2
                    have k2 := hlI.reads'.2.2
                    have e1 : n = (ints (pre xs n)).length := by rw [ints_length, pre_len]
                    have HAZ := Lib.hid (AtZero.calls_n (pre xs n) (col bs n j) (some ⟨gx, 0, none⟩) (some ⟨gy, 0, none⟩) n n n n wr e1 hl.symm (by rw [← e1] at k1; exact k1) (by rw [hl] at k2; exact k2) (by rw [pre_len]; omega) (by rw [ints_length] at hl; omega))
                    have HYI := Lib.hid hlI
                    clear hl hlp hlI k1 k2 e1 HY
                    have Hsu : Hid (outL xs bs n (j + 1) = outL xs bs n j ++ [(res (pre xs n) (col bs n j)).1]) := outL_succ xs bs n j
                    have HLC : Hid (∃ l : List Int, l.length = n ∧ ints (col bs n j) = l) := ⟨_, by rw [ints_length, col, List.length_map, List.length_range], rfl⟩
                    have hol : (outL xs bs n j).length ≤ 1024 := by unfold outL; rw [List.length_map, List.length_range]; omega
                    generalize res (pre xs n) (col bs n j) = rr at *
                    generalize outL xs bs n j = ol at *
                    generalize ints (col bs n j) = lc at *
                    go_wp2_with fail
                    refine HAZ.out.mono ?_
                    rintro e w5 ⟨rfl, hb⟩
                    have HV5 := Lib.hid (HV.out.below hb)
                    have HX5 := Lib.hid (HX.out.below hb)
                    have HY5 := Lib.hid (HYI.out.below hb)
                    have HB5 : Hid (Below w.heap.size w w5) := HB.out.trans (hb.mono HB.out.size)
                    have hK5 : H2 ≤ w5.heap.size := Nat.le_trans HK.out hb.size
                    clear hb HAZ HV HX HYI HB HK
                    go_wp2_with (refine Row.append H2 _ _ u2 ol rr.1 rfl rfl rfl rfl rfl HV5.out hK5 (by omega) ?_; intro v1 w6 q1 q2 q3 q4)
                    have HV6 : Hid (Row.Is w6 H2 v1 (outL xs bs n (j + 1))) := by show Row.Is _ _ _ _; rw [Hsu.out]; exact q1
                    have HX6 : Hid (Row.Is w6 w.heap.size (.slice (some ⟨gx, 0, none⟩) n n) (ints (pre xs n))) := HX5.out.grown q3 (fun k hk e => by
                      have h1 := (HV5.out.lt k e.symm).1
                      have h2 := HGX.out.1
                      have h3 : gx = k := by simpa [Value.ownBlock] using hk
                      omega)
                    have HY6 : Hid (Row.Is w6 w.heap.size (.slice (some ⟨gy, 0, none⟩) n n) lc) := HY5.out.grown q3 (fun k hk e => by
                      have h1 := (HV5.out.lt k e.symm).1
                      have h2 := HGX.out.2
                      have h3 : gy = k := by simpa [Value.ownBlock] using hk
                      omega)
                    have HB6 : Hid (Below w.heap.size w w6) := HB5.out.trans (q2.mono HWH.out)
                    have HK6 : Hid (H2 ≤ w6.heap.size) := Nat.le_trans hK5 q2.size
                    clear q1 q2 q3 q4 HV5 HX5 HY5 HB5 hK5 Hsu
                    go_wp2
                    go_roundw
                    case rel => exact ⟨j + 1, by omega, by go_num, HV6, HX6, ⟨lc, by obtain ⟨l, h1, h2⟩ := HLC.out; rw [h2]; exact h1, HY6.out⟩, HB6, HK6⟩
                    case measure => simp [intOf]; omega
              · obtain rfl : L0 = j := by omega
                go_wp2
                go_ret2
                exact ⟨_, rfl, by rw [HRL2.out]; exact HV.out.lower HWH.out, HB.out⟩
set_option maxRecDepth 100000 in
set_option maxHeartbeats 4000000 in
theorem combine_long (A : Option Addr) (c n : Nat) (xs : Nat → B) (bs : Nat → List B) (w : World) (h : ReadsS w A n xs (fun q => ints (bs q))) (hn0 : 0 < n) (hn : n ≤ 16) (hls : ¬ ∀ q, q < n → (bs q).length ≤ 1024) (hm : ∀ q, q < n → (bs q).length ≤ 9223372036854775807) :
    Calls Try.prog 24 #[.slice A n c] w fun e w' => e = .returned (.tuple #[.slice none 0 0, .int .i64 3]) ∧ Below w.heap.size w w' := by
  have H := Lib.hid h
  have HLS := Lib.hid hls
  have HM := Lib.hid hm
  have hnz : ((n : Int) == 0) = false := beq_eq_false_iff_ne.mpr (by omega)
  clear h hls hm
  go_enter Try.func24, Try.ntmps24
  go_wp2_with fail
  go_loopw [2, 3, 5, 26] (fun v2 v3 v5 v26 wr => ∃ (i : Nat), i ≤ n ∧ v2 = .slice none 0 0 ∧ v3 = .int .i64 0 ∧ v26 = .int .i64 (i : Int) ∧ Hid (∀ q, q < i → (bs q).length ≤ 1024) ∧ Hid (Below w.heap.size w wr)) (fun _ _ _ v26 _ => n - (intOf v26).toNat)
  case atStart => exact ⟨0, by omega, rfl, rfl, rfl, fun q h => absurd h (Nat.not_lt_zero q), Below.refl _ _⟩
  case round =>
    obtain ⟨i, hi, rfl, rfl, rfl, HQ, HB⟩ := hrel
    by_cases hlt : i < n
    · obtain ⟨ad, rfl, hc⟩ := H.out (by omega)
      obtain ⟨hx0, C, cc, hx1, _, _⟩ := hc i hlt
      have hx0 := (HB.out.cell (World.block_lt_of_cell? _ _ hx0)).trans hx0
      have hx1 := (HB.out.cell (World.block_lt_of_cell? _ _ hx1)).trans hx1
      rw [ints_length] at hx1
      have hmx := HM.out i hlt
      clear hc
      generalize xs i = x at *
      have HB1 := Lib.hid (HB.out.alloc HB.out.size (.cells #[.int .u8 (ofB x), .slice C (bs i).length cc] 44))
      have HQ1 : Hid ((bs i).length ≤ 1024 → ∀ q, q < i + 1 → (bs q).length ≤ 1024) := fun h q hq => by
        by_cases e : q = i
        · subst e; exact h
        · exact HQ.out q (by omega)
      clear HB HQ
      generalize (bs i).length = L at *
      by_cases hL : L ≤ 1024
      · have HQ2 := Lib.hid (HQ1.out hL)
        clear HQ1
        go_wp2
        go_roundw
        case rel => exact ⟨i + 1, by omega, rfl, rfl, by go_num, HQ2, HB1⟩
        case measure => simp [intOf]; omega
      · have hL2 : (1024 : Int) < (L : Int) := by omega
        clear HQ1
        go_wp2
        go_ret2
        exact ⟨rfl, HB1.out⟩
    · obtain rfl : n = i := by omega
      exact absurd HQ.out HLS.out
end Go.Proofs.Ytglnepokollijaa.Share
