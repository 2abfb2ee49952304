/- What is said here: what the steps shift and unshift of AES make of a block on its way. -/
import Derived.Test.YtfbhbkcjnbpnlaaAes1
import Derived.Deep.WholeRow
namespace Go.Proofs.Ytfbhbkcjnbpnlaa.Aes
set_option linter.unusedVariables false
set_option linter.unusedSimpArgs false
open Go.RowKit Go.Proofs.YtfbhbkcjnbpnlaaW.PrintWords Go.Proofs.YtfbhbkcjnbpnlaaW.PrintLast Go.Proofs.YtfbhbkcjnbpnlaaW.PrintMore
open Gf Gfi Poly
attribute [local go_sem ↓] ld23 st23

theorem cB_cell {W : World} {b : Nat} {f : Nat → B} {T : TypeId} (h : Blk.Is W b (cB 16 f) T) (i : Nat) (hi : i < 16) : W.cell? ⟨b, i, none⟩ = some (.int .u8 (ofB (f i))) := by rw [h.cell, cB_get _ _ _ hi]
theorem st_new (w : World) (f : Nat → B) : (Blk.st 23 (.pointer (some ⟨w.heap.size, 0, none⟩)) (.agg (cB 16 f))).run Try.prog (w.alloc (.cells #[.int .u8 0, .int .u8 0, .int .u8 0, .int .u8 0, .int .u8 0, .int .u8 0, .int .u8 0, .int .u8 0, .int .u8 0, .int .u8 0, .int .u8 0, .int .u8 0, .int .u8 0, .int .u8 0, .int .u8 0, .int .u8 0] 23)) = .ok () (w.alloc (.cells (cB 16 f) 23)) :=
  run_storeAt_new w 23 _ _ (by rw [cB_size]; kernel_rfl) (by rw [cB_size]; rfl) (cB_one 16 f)
/-- Where a byte is taken from. -/
def sg (i : Nat) : Nat := (i + 4 * (i % 4)) % 16
def sgi (i : Nat) : Nat := (i + 12 * (i % 4)) % 16
theorem sg_lt (i : Nat) : sg i < 16 := Nat.mod_lt _ (by decide)
theorem sgi_sg : ∀ i, i < 16 → sgi (sg i) = i := by decide
theorem sg_sgi : ∀ i, i < 16 → sg (sgi i) = i := by decide
theorem sgi_lt (i : Nat) : sgi i < 16 := Nat.mod_lt _ (by decide)
theorem un_val (st : Nat → B) : ∀ i, i < 16 → st i = unshiftS st ((i + 4 * (i % 4)) % 16) := fun i hi => by
  have h : (((i + 4 * (i % 4)) % 16) + 12 * (((i + 4 * (i % 4)) % 16) % 4)) % 16 = i := sgi_sg i hi
  unfold unshiftS
  rw [h]
theorem un_uniq (i : Nat) (hi : i < 16) : ∀ q, q < 16 → sgi q = i → q = (i + 4 * (i % 4)) % 16 := fun q hq h => by
  have := sg_sgi q hq
  rw [h] at this
  exact this.symm
set_option maxRecDepth 100000 in
set_option maxHeartbeats 2000000 in
theorem shift_calls (s kb r : Nat) (K st : Nat → B) (w : World) (h : St w s kb K st r) :
    Calls Try.prog 21 #[.pointer (some ⟨s, 0, none⟩)] w fun e w' => e = .returned (.tuple #[]) ∧ St w' s kb K (shiftS st) r ∧ Keeps s w w' := by
  have hl := h.load
  have hst := st_new w st
  have HI := Lib.hid (Blk.Is.new w (cB 16 st) 23)
  have HB1 : Hid (Keeps s w (w.alloc (.cells (cB 16 st) 23))) := (Keeps.refl s w).alloc (by have := h.b.lt; omega) _
  have HN : Hid (w.heap.size ≠ s) := fun e => by have := h.b.lt; omega
  have H := Lib.hid (h.alloc (.cells (cB 16 st) 23))
  clear h
  go_enter Try.func21, Try.ntmps21
  go_wp2_with fail
  clear hl hst
  generalize w.alloc (.cells (cB 16 st) 23) = w1 at *
  generalize w.heap.size = g at *
  go_loopw [3, 8] (fun v3 v8 wr => ∃ (i : Nat), i ≤ 16 ∧ v8 = .int .i64 (i : Int) ∧ Hid (St wr s kb K (upto id (shiftS st) st i) r) ∧ Hid (Blk.Is wr g (cB 16 st) 23) ∧ Hid (Keeps s w wr)) (fun _ v8 _ => 16 - (intOf v8).toNat)
  case atStart => exact ⟨0, by omega, rfl, H.out.congr (fun q _ => upto_zero _ _ _ q), HI, HB1⟩
  case round =>
    clear H HB1 HI
    obtain ⟨i, hi, rfl, HS, HG, HB⟩ := hrel
    by_cases hlt : i < 16
    · have hx := HS.out.at_ (i) (hlt)
      have hf := HS.out.free (i)
      have hy := cB_cell HG.out ((i + 4 * (i % 4)) % 16) (sg_lt i)
      have hv : st ((i + 4 * (i % 4)) % 16) = shiftS st (i) := rfl
      rw [hv] at hy
      rw [upto_self id _ _ (i) i (rfl)] at hx
      have HGN : Hid (∀ v, Blk.Is (wr.drew.setCell ⟨s, i, none⟩ v) g (cB 16 st) 23) := fun v => HG.out.drew.other (by exact HN.out) v
      have HNX := Lib.hid ((HS.out.drew.set (i) (hlt) (shiftS st (i))).congr (fun q hq => upto_next id (shiftS st) st i (i) (rfl) (fun q _ h => h) q hq))
      clear hv
      go_wp2
      go_region
      go_wp2
      go_roundw
      case rel => exact ⟨i + 1, by omega, by go_num, HNX, HGN.out _, (HB.out.drew).setCell rfl _⟩
      case measure => simp [intOf]; omega
    · obtain rfl : i = 16 := by omega
      go_wp2
      go_end0
      exact ⟨rfl, HS.out.congr (fun q hq => upto_end _ _ _ 16 q (by first | exact hq | exact sgi_lt q)), HB.out⟩
set_option maxRecDepth 100000 in
set_option maxHeartbeats 2000000 in
theorem unshift_calls (s kb r : Nat) (K st : Nat → B) (w : World) (h : St w s kb K st r) :
    Calls Try.prog 26 #[.pointer (some ⟨s, 0, none⟩)] w fun e w' => e = .returned (.tuple #[]) ∧ St w' s kb K (unshiftS st) r ∧ Keeps s w w' := by
  have hl := h.load
  have hst := st_new w st
  have HI := Lib.hid (Blk.Is.new w (cB 16 st) 23)
  have HB1 : Hid (Keeps s w (w.alloc (.cells (cB 16 st) 23))) := (Keeps.refl s w).alloc (by have := h.b.lt; omega) _
  have HN : Hid (w.heap.size ≠ s) := fun e => by have := h.b.lt; omega
  have H := Lib.hid (h.alloc (.cells (cB 16 st) 23))
  clear h
  go_enter Try.func26, Try.ntmps26
  go_wp2_with fail
  clear hl hst
  generalize w.alloc (.cells (cB 16 st) 23) = w1 at *
  generalize w.heap.size = g at *
  go_loopw [3, 8] (fun v3 v8 wr => ∃ (i : Nat), i ≤ 16 ∧ v8 = .int .i64 (i : Int) ∧ Hid (St wr s kb K (upto sgi (unshiftS st) st i) r) ∧ Hid (Blk.Is wr g (cB 16 st) 23) ∧ Hid (Keeps s w wr)) (fun _ v8 _ => 16 - (intOf v8).toNat)
  case atStart => exact ⟨0, by omega, rfl, H.out.congr (fun q _ => upto_zero _ _ _ q), HI, HB1⟩
  case round =>
    clear H HB1 HI
    obtain ⟨i, hi, rfl, HS, HG, HB⟩ := hrel
    by_cases hlt : i < 16
    · have hx := HS.out.at_ ((i + 4 * (i % 4)) % 16) (sg_lt i)
      have hf := HS.out.free ((i + 4 * (i % 4)) % 16)
      have hy := cB_cell HG.out (i) (hlt)
      have hv : st (i) = unshiftS st ((i + 4 * (i % 4)) % 16) := un_val st i hlt
      rw [hv] at hy
      rw [upto_self sgi _ _ ((i + 4 * (i % 4)) % 16) i (sgi_sg i hlt)] at hx
      have HGN : Hid (∀ v, Blk.Is (wr.drew.setCell ⟨s, (i + 4 * (i % 4)) % 16, none⟩ v) g (cB 16 st) 23) := fun v => HG.out.drew.other (by exact HN.out) v
      have HNX := Lib.hid ((HS.out.drew.set ((i + 4 * (i % 4)) % 16) (sg_lt i) (unshiftS st ((i + 4 * (i % 4)) % 16))).congr (fun q hq => upto_next sgi (unshiftS st) st i ((i + 4 * (i % 4)) % 16) (sgi_sg i hlt) (un_uniq i hlt) q hq))
      clear hv
      go_wp2
      go_region
      go_wp2
      go_roundw
      case rel => exact ⟨i + 1, by omega, by go_num, HNX, HGN.out _, (HB.out.drew).setCell rfl _⟩
      case measure => simp [intOf]; omega
    · obtain rfl : i = 16 := by omega
      go_wp2
      go_end0
      exact ⟨rfl, HS.out.congr (fun q hq => upto_end _ _ _ 16 q (by first | exact hq | exact sgi_lt q)), HB.out⟩
end Go.Proofs.Ytfbhbkcjnbpnlaa.Aes
