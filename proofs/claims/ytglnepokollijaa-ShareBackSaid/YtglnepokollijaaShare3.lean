/- What is said here: share.Need tells how many shares more are needed. -/
import Derived.Test.YtglnepokollijaaShare1
import Derived.Test.YtglnepokollijaaAtZero
import Derived.Lib.Hide
import Derived.Outline
import Derived.LoopTactic
namespace Go.Proofs.Ytglnepokollijaa.Share
set_option linter.unusedVariables false
set_option linter.unusedSimpArgs false
open Go.RowKit Go.Proofs.Ytglnepokollijaa.Row Go.Proofs.YtglnepokollijaaW.PrintWords Go.Proofs.YtglnepokollijaaW.PrintLast Go.Proofs.YtglnepokollijaaW.PrintMore
open Gf Gfi Poly AtZero

/-- Shares that came in are read. -/
def ReadsS (W : World) (A : Option Addr) (n : Nat) (xs : Nat → B) (ls : Nat → List Int) : Prop :=
  0 < n → ∃ ad, A = some ad ∧ ∀ i, i < n → W.cell? (ad.add (i * 2)) = some (.int .u8 (ofB (xs i))) ∧ ∃ (C : Option Addr) (c : Nat), W.cell? ⟨(ad.add (i * 2)).block, (ad.add (i * 2)).off + 1, none⟩ = some (.slice C (ls i).length c) ∧ (ls i).length ≤ c ∧ Kd.C (Kd.int .u8) W C (ls i).length (ls i)
theorem ReadsS.below {W W' : World} {A : Option Addr} {n : Nat} {xs : Nat → B} {ls : Nat → List Int} (h : ReadsS W A n xs ls) (hb : Below W.heap.size W W') : ReadsS W' A n xs ls := by
  intro hn
  obtain ⟨ad, e, hc⟩ := h hn
  refine ⟨ad, e, fun i hi => ?_⟩
  obtain ⟨h1, C, c, h2, h3, h4⟩ := hc i hi
  exact ⟨(hb.cell (World.block_lt_of_cell? _ _ h1)).trans h1, C, c, (hb.cell (World.block_lt_of_cell? _ _ h2)).trans h2, h3, Kd.C_below h4 hb⟩
/-- The places that are not 0, each once. -/
def fr (xs : Nat → B) : Nat → List B
  | 0 => []
  | i + 1 => if xs i = 0#8 ∨ xs i ∈ fr xs i then fr xs i else fr xs i ++ [xs i]
theorem fr_len (xs : Nat → B) (i : Nat) : (fr xs i).length ≤ i := by
  induction i with
  | zero => exact Nat.le_refl _
  | succ i ih =>
    rw [fr]
    split
    · omega
    · rw [List.length_append, List.length_singleton]; omega
def need (xs : Nat → B) (n : Nat) (k : Int) : Int := if k ≤ ((fr xs n).length : Int) then 0 else k - ((fr xs n).length : Int)

set_option maxRecDepth 100000 in
set_option maxHeartbeats 4000000 in
theorem need_calls (A : Option Addr) (c n : Nat) (k : Int) (xs : Nat → B) (ls : Nat → List Int) (w : World) (h : ReadsS w A n xs ls) (hn : n ≤ 1000000000) (hk0 : -9223372036854775808 ≤ k) (hk1 : k ≤ 9223372036854775807) :
    Calls Try.prog 27 #[.slice A n c, .int .i64 k] w fun e w' => e = .returned (.int .i64 (need xs n k)) ∧ Below w.heap.size w w' := by
  have hz := zero38
  obtain ⟨r, hr⟩ : ∃ r, r = need xs n k := ⟨_, rfl⟩
  rw [← hr]
  have HRr := Lib.hid hr
  have H := Lib.hid h
  clear h hr
  go_enter Try.func27, Try.ntmps27
  go_wp2
  go_loopw [6, 8, 11] (fun v6 v8 v11 wr => ∃ (i : Nat), i ≤ n ∧ v6 = .int .i64 ((fr xs i).length : Int) ∧ v11 = .int .i64 (i : Int) ∧ Hid (Blk.Is wr w.heap.size (seenA (fr xs i)) 61) ∧ Hid (Below w.heap.size w wr)) (fun _ _ v11 _ => n - (intOf v11).toNat)
  case atStart => exact ⟨0, by omega, rfl, rfl, Blk.Is.new _ _ _, (Below.refl _ _).alloc (Nat.le_refl _) _⟩
  case round =>
    obtain ⟨i, hi, rfl, rfl, HS, HB⟩ := hrel
    by_cases hlt : i < n
    · obtain ⟨ad, rfl, hc⟩ := H.out (by omega)
      obtain ⟨hx0, C, cc, hx1, _, _⟩ := hc i hlt
      have hx0 := (HB.out.cell (World.block_lt_of_cell? _ _ hx0)).trans hx0
      have hx1 := (HB.out.cell (World.block_lt_of_cell? _ _ hx1)).trans hx1
      have hfl := fr_len xs i
      have hfs : Hid (fr xs (i + 1) = if xs i = 0#8 ∨ xs i ∈ fr xs i then fr xs i else fr xs i ++ [xs i]) := rfl
      have hge := seenA_get (fr xs i) (xs i)
      have hse := seenA_set (fr xs i) (xs i)
      clear hc
      generalize xs i = x at *
      generalize fr xs i = pre at *
      have HS1 := Lib.hid (HS.out.alloc (.cells #[.int .u8 (ofB x), .slice C (ls i).length cc] 44))
      have HB1 := Lib.hid (HB.out.alloc HB.out.size (.cells #[.int .u8 (ofB x), .slice C (ls i).length cc] 44))
      have hs := (HS1.out.cell x.toNat).trans hge
      have hf := HS1.out.free x.toNat
      have Hse := Lib.hid hse
      have HR := ofB_range x
      have hr1 := HR.1
      have hr2 := HR.2
      have ex : x.toNat = (ofB x).toNat := by simp [ofB]
      rw [ex] at hs hf
      clear hge hse HR HS HB
      by_cases hx : x = 0#8
      · have hxz : (ofB x != 0) = false := bne_eq_false_iff_eq.mpr (by rw [hx]; rfl)
        have hp : fr xs (i + 1) = pre := by rw [hfs.out, if_pos (Or.inl hx)]
        have HP := Lib.hid hp
        clear hx hp hfs hs hf
        go_wp2
        go_roundw
        case rel => exact ⟨i + 1, by omega, by rw [HP.out], by go_num, by rw [HP.out]; exact HS1.out, HB1.out⟩
        case measure => simp [intOf]; omega
      · have hxz : (ofB x != 0) = true := bne_iff_ne.mpr (fun e => hx (ofB_eq_zero.1 e))
        by_cases hm : x ∈ pre
        · rw [decide_eq_true hm] at hs
          have hp : fr xs (i + 1) = pre := by rw [hfs.out, if_pos (Or.inr hm)]
          have HP := Lib.hid hp
          clear hx hp hfs hm
          go_wp2
          go_roundw
          case rel => exact ⟨i + 1, by omega, by rw [HP.out], by go_num, by rw [HP.out]; exact HS1.out, HB1.out⟩
          case measure => simp [intOf]; omega
        · rw [decide_eq_false hm] at hs
          have hp : fr xs (i + 1) = pre ++ [x] := by rw [hfs.out, if_neg (fun h => h.elim hx hm)]
          have HP := Lib.hid hp
          clear hx hp hfs hm
          go_wp2
          go_roundw
          case rel => exact ⟨i + 1, by omega, by rw [HP.out, List.length_append]; go_num, by go_num, by rw [HP.out, ← Hse.out, ex]; exact HS1.out.set _ _, HB1.out.setCell (Nat.le_refl _) _⟩
          case measure => simp [intOf]; omega
    · obtain rfl : n = i := by omega
      have hfl := fr_len xs n
      have HE : Hid (r = if k ≤ ((fr xs n).length : Int) then 0 else k - ((fr xs n).length : Int)) := HRr.out
      clear HRr hlt hi
      generalize (fr xs n).length = m at *
      by_cases hkm : k ≤ (m : Int)
      · have he : r = 0 := by rw [HE.out, if_pos hkm]
        subst he
        clear HE
        go_wp2
        go_ret
        exact ⟨rfl, HB.out⟩
      · have he : r = k - (m : Int) := by rw [HE.out, if_neg hkm]
        subst he
        clear HE
        have hw : IntKind.i64.wrap (k - (m : Int)) = k - (m : Int) := IntWalk.i64_in _ (by omega)
        go_wp2
        go_ret
        exact ⟨rfl, HB.out⟩
end Go.Proofs.Ytglnepokollijaa.Share
