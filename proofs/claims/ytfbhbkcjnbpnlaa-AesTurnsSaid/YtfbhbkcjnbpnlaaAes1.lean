/- What is said here: what the steps of AES make of a block on its way. -/
import Derived.Test.YtfbhbkcjnbpnlaaAes0
import Derived.Test.YtfbhbkcjnbpnlaaWWords
import Derived.Test.YtfbhbkcjnbpnlaaWLast
import Derived.Test.YtfbhbkcjnbpnlaaWMore
import Derived.Deep.RegionHeld3
import Derived.BigQuiet
import Derived.Deep.QuietTactic
import Derived.StillTailTactics
import Derived.LoopTactic
namespace Go.Proofs.Ytfbhbkcjnbpnlaa.Aes
set_option linter.unusedVariables false
set_option linter.unusedSimpArgs false
open Go.RowKit Go.Proofs.YtfbhbkcjnbpnlaaW.PrintWords Go.Proofs.YtfbhbkcjnbpnlaaW.PrintLast Go.Proofs.YtfbhbkcjnbpnlaaW.PrintMore
open Gf Gfi Poly
attribute [local go_sem ↓] ld23 st23

/-- Places whose turn (p) has come have the new byte. -/
def upto (p : Nat → Nat) (f g : Nat → B) (i : Nat) : Nat → B := fun q => if p q < i then f q else g q
theorem upto_zero (p : Nat → Nat) (f g : Nat → B) (q : Nat) : g q = upto p f g 0 q := by unfold upto; rw [if_neg (Nat.not_lt_zero _)]
theorem upto_self (p : Nat → Nat) (f g : Nat → B) (q i : Nat) (h : p q = i) : upto p f g i q = g q := by unfold upto; rw [if_neg (by omega)]
theorem upto_next (p : Nat → Nat) (f g : Nat → B) (i z : Nat) (hz : p z = i) (hi : ∀ q, q < 16 → p q = i → q = z) (q : Nat) (hq : q < 16) : updB (upto p f g i) z (f z) q = upto p f g (i + 1) q := by
  unfold updB upto
  by_cases e : q = z
  · subst e
    rw [if_pos rfl, if_pos (by omega)]
  · rw [if_neg e]
    by_cases e2 : p q < i
    · rw [if_pos e2, if_pos (by omega)]
    · rw [if_neg e2, if_neg (fun h => e (hi q hq (by omega)))]
theorem upto_end (p : Nat → Nat) (f g : Nat → B) (n q : Nat) (h : p q < n) : upto p f g n q = f q := by unfold upto; rw [if_pos h]
theorem idx23 (cs : Array Value) (i : Nat) (h : i < 16) (b : Int) (hb : cs[i]? = some (.int .u8 b)) (W : World) : (Instr.index 23 (.agg cs) (.int .i64 (i : Int))).run Try.prog W = .ok (.int .u8 b) W := by
  have h1 : (0 : Int) ≤ (i : Int) ∧ (i : Int) < (16 : Int) := by omega
  have hs : (sizeOf 5).run Try.prog W = .ok 1 W := by kernel_rfl
  have ha : (isAgg 5).run Try.prog W = .ok false W := by kernel_rfl
  simp [Instr.index, asIntOf, run_underlying Try.underlying23, h, Sem.run_bind, hs, part, ha, hb, Result.andThen]

set_option maxRecDepth 100000 in
set_option maxHeartbeats 2000000 in
theorem add_calls (s kb r : Nat) (K st : Nat → B) (w : World) (h : St w s kb K st r) (hr : r ≤ 14) :
    Calls Try.prog 19 #[.pointer (some ⟨s, 0, none⟩)] w fun e w' => e = .returned (.tuple #[]) ∧ St w' s kb K (addS K r st) r ∧ Keeps s w w' := by
  have x16 := h.key
  have x17 := h.round
  have hl := h.drew.loadRound r hr
  have H := Lib.hid h
  clear h
  go_enter Try.func19, Try.ntmps19
  go_wp2
  go_region
  have H1 := Lib.hid (H.out.drew)
  have HB1 : Hid (Keeps s w w.drew) := (Keeps.refl s w).drew
  clear hl x16 x17 H
  generalize w.drew = w1 at *
  generalize hka : cB 16 (fun i => K (16 * r + i)) = ka
  have HKA : Hid (∀ i, i < 16 → ka[i]? = some (.int .u8 (ofB (K (16 * r + i))))) := fun i hi => by rw [← hka]; exact cB_get 16 _ i hi
  clear hka
  go_wp2_with fail
  go_loopw [2, 3, 16] (fun v2 v3 v16 wr => ∃ (i : Nat), i ≤ 16 ∧ v16 = .int .i64 (i : Int) ∧ Hid (St wr s kb K (upto id (addS K r st) st i) r) ∧ Hid (Keeps s w wr)) (fun _ _ v16 _ => 16 - (intOf v16).toNat)
  case atStart => exact ⟨0, by omega, rfl, H1.out.congr (fun q _ => upto_zero _ _ _ q), HB1⟩
  case round =>
    clear H1 HB1
    obtain ⟨i, hi, rfl, HS, HB⟩ := hrel
    by_cases hlt : i < 16
    · have hk2 := idx23 ka i hlt _ (HKA.out i hlt) wr
      have hx := HS.out.at_ i hlt
      rw [upto_self id _ _ i i rfl] at hx
      have hf := HS.out.free i
      have hxor : Go.bits .xor .u8 (ofB (st i)) (ofB (K (16 * r + i))) = ofB (addS K r st i) := by rw [bits_xor]; rfl
      have HV : Hid (addS K r st i = st i ^^^ K (16 * r + i)) := rfl
      generalize hy : st i = y at *
      generalize K (16 * r + i) = z at *
      go_wp2
      go_region
      go_wp2
      go_roundw
      case rel => exact ⟨i + 1, by omega, by go_num, (HS.out.drew.set i hlt (addS K r st i)).congr (fun q hq => upto_next id _ _ i i rfl (fun q _ h => h) q hq), (HB.out.drew).setCell rfl _⟩
      case measure => simp [intOf]; omega
    · obtain rfl : i = 16 := by omega
      go_wp2
      go_end0
      exact ⟨rfl, HS.out.congr (fun q hq => upto_end id _ _ 16 q hq), HB.out⟩
set_option maxRecDepth 100000 in
set_option maxHeartbeats 2000000 in
theorem swap_calls (s kb r : Nat) (K st : Nat → B) (w : World) (h : St w s kb K st r) :
    Calls Try.prog 20 #[.pointer (some ⟨s, 0, none⟩)] w fun e w' => e = .returned (.tuple #[]) ∧ St w' s kb K (swapS K st) r ∧ Keeps s w w' := by
  have hl := h.load
  have H := Lib.hid h
  clear h
  go_enter Try.func20, Try.ntmps20
  go_wp2_with fail
  have HB1 : Hid (Keeps s w w) := Keeps.refl s w
  clear hl
  generalize hka : cB 16 st = ka
  have HKA : Hid (∀ i, i < 16 → ka[i]? = some (.int .u8 (ofB (st i)))) := fun i hi => by rw [← hka]; exact cB_get 16 _ i hi
  clear hka
  go_loopw [2, 3, 8] (fun v2 v3 v8 wr => ∃ (i : Nat), i ≤ 16 ∧ v8 = .int .i64 (i : Int) ∧ Hid (St wr s kb K (upto id (swapS K st) st i) r) ∧ Hid (Keeps s w wr)) (fun _ _ v8 _ => 16 - (intOf v8).toNat)
  case atStart => exact ⟨0, by omega, rfl, H.out.congr (fun q _ => upto_zero _ _ _ q), HB1⟩
  case round =>
    clear H HB1
    obtain ⟨i, hi, rfl, HS, HB⟩ := hrel
    by_cases hlt : i < 16
    · have hk2 := idx23 ka i hlt _ (HKA.out i hlt) wr
      have hx16 := HS.out.key
      have hx := HS.out.at_ i hlt
      have hf := HS.out.free i
      have hy := HS.out.atKey (240 + (st i).toNat) (by have := (st i).isLt; omega)
      have hyr := ofB_range (st i)
      have hyr1 := hyr.1
      have hyr2 := hyr.2
      have ey : (ofB (st i)).toNat = (st i).toNat := by simp [ofB]
      have hv : K (240 + (st i).toNat) = swapS K st i := rfl
      rw [hv, ← ey] at hy
      rw [upto_self id _ _ i i rfl] at hx
      clear hyr hv ey
      generalize ofB (st i) = y at *
      go_wp2
      go_region
      go_wp2
      go_roundw
      case rel => exact ⟨i + 1, by omega, by go_num, (HS.out.drew.set i hlt (swapS K st i)).congr (fun q hq => upto_next id _ _ i i rfl (fun q _ h => h) q hq), (HB.out.drew).setCell rfl _⟩
      case measure => simp [intOf]; omega
    · obtain rfl : i = 16 := by omega
      go_wp2
      go_end0
      exact ⟨rfl, HS.out.congr (fun q hq => upto_end id _ _ 16 q hq), HB.out⟩
set_option maxRecDepth 100000 in
set_option maxHeartbeats 2000000 in
theorem back_calls (s kb r : Nat) (K st : Nat → B) (w : World) (h : St w s kb K st r) :
    Calls Try.prog 27 #[.pointer (some ⟨s, 0, none⟩)] w fun e w' => e = .returned (.tuple #[]) ∧ St w' s kb K (backS K st) r ∧ Keeps s w w' := by
  have hl := h.load
  have H := Lib.hid h
  clear h
  go_enter Try.func27, Try.ntmps27
  go_wp2_with fail
  have HB1 : Hid (Keeps s w w) := Keeps.refl s w
  clear hl
  generalize hka : cB 16 st = ka
  have HKA : Hid (∀ i, i < 16 → ka[i]? = some (.int .u8 (ofB (st i)))) := fun i hi => by rw [← hka]; exact cB_get 16 _ i hi
  clear hka
  go_loopw [2, 3, 8] (fun v2 v3 v8 wr => ∃ (i : Nat), i ≤ 16 ∧ v8 = .int .i64 (i : Int) ∧ Hid (St wr s kb K (upto id (backS K st) st i) r) ∧ Hid (Keeps s w wr)) (fun _ _ v8 _ => 16 - (intOf v8).toNat)
  case atStart => exact ⟨0, by omega, rfl, H.out.congr (fun q _ => upto_zero _ _ _ q), HB1⟩
  case round =>
    clear H HB1
    obtain ⟨i, hi, rfl, HS, HB⟩ := hrel
    by_cases hlt : i < 16
    · have hk2 := idx23 ka i hlt _ (HKA.out i hlt) wr
      have hx16 := HS.out.key
      have hx := HS.out.at_ i hlt
      have hf := HS.out.free i
      have hy := HS.out.atKey (496 + (st i).toNat) (by have := (st i).isLt; omega)
      have hyr := ofB_range (st i)
      have hyr1 := hyr.1
      have hyr2 := hyr.2
      have ey : (ofB (st i)).toNat = (st i).toNat := by simp [ofB]
      have hv : K (496 + (st i).toNat) = backS K st i := rfl
      rw [hv, ← ey] at hy
      rw [upto_self id _ _ i i rfl] at hx
      clear hyr hv ey
      generalize ofB (st i) = y at *
      go_wp2
      go_region
      go_wp2
      go_roundw
      case rel => exact ⟨i + 1, by omega, by go_num, (HS.out.drew.set i hlt (backS K st i)).congr (fun q hq => upto_next id _ _ i i rfl (fun q _ h => h) q hq), (HB.out.drew).setCell rfl _⟩
      case measure => simp [intOf]; omega
    · obtain rfl : i = 16 := by omega
      go_wp2
      go_end0
      exact ⟨rfl, HS.out.congr (fun q hq => upto_end id _ _ 16 q hq), HB.out⟩
end Go.Proofs.Ytfbhbkcjnbpnlaa.Aes
