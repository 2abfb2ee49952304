/- What is said here: small facts on texts and arrays. -/
import Derived.Test.YtbebmbcjddibaaaGm2
import Derived.Test.YtbebmbcjddibaaaGcmB
namespace Go.Proofs.Ytbebmbcjddibaaa.Gcm
set_option linter.unusedVariables false
set_option linter.unusedSimpArgs false
open Go.RowKit Go.Proofs.YtbebmbcjddibaaaW.PrintWords Go.Proofs.YtbebmbcjddibaaaW.PrintLast Go.Proofs.YtbebmbcjddibaaaW.PrintMore Go.Proofs.Ytbebmbcjddibaaa.PG Gf Gfi Poly AesF Aes Lng
theorem ext_getD {a b : List Int} (hl : a.length = b.length) (h : ∀ j, j < a.length → a.getD j 0 = b.getD j 0) : a = b := by
  apply List.ext_getElem hl
  intro j h1 h2
  have := h j h1
  rwa [List.getD_eq_getElem?_getD, List.getD_eq_getElem?_getD, List.getElem?_eq_getElem h1, List.getElem?_eq_getElem h2] at this
theorem st12 (x v : Value) : Instr.storeAt 23 x v = Blk.st 23 x v := rfl
theorem st12_new (w : World) (f : Nat → B) : (Blk.st 23 (.pointer (some ⟨w.heap.size, 0, none⟩)) (.agg (cB 12 f))).run Try.prog (w.alloc (.cells #[.int .u8 0, .int .u8 0, .int .u8 0, .int .u8 0, .int .u8 0, .int .u8 0, .int .u8 0, .int .u8 0, .int .u8 0, .int .u8 0, .int .u8 0, .int .u8 0] 23)) = .ok () (w.alloc (.cells (cB 12 f) 23)) :=
  run_storeAt_new w 23 _ _ (by rw [cB_size]; kernel_rfl) (by rw [cB_size]; rfl) (cB_one 12 f)
theorem ld12_is {w : World} {b : Nat} {f : Nat → B} {T : TypeId} (h : Blk.Is w b (cB 12 f) T) : (Blk.ld 23 (.pointer (some ⟨b, 0, none⟩))).run Try.prog w = .ok (.agg (cB 12 f)) w := Blk.load_row h (P := Try.prog) (t := 23) Try.underlying23 rfl (by rw [cB_size]; kernel_rfl)
theorem ld16_is {w : World} {b : Nat} {f : Nat → B} {T : TypeId} (h : Blk.Is w b (cB 16 f) T) : (Blk.ld 37 (.pointer (some ⟨b, 0, none⟩))).run Try.prog w = .ok (.agg (cB 16 f)) w := Blk.load_row h (P := Try.prog) (t := 37) Try.underlying37 rfl (by rw [cB_size]; kernel_rfl)
open Go.RowKit Go.Proofs.YtbebmbcjddibaaaW.PrintWords Go.Proofs.YtbebmbcjddibaaaW.PrintLast Go.Proofs.YtbebmbcjddibaaaW.PrintMore in
theorem Txt.drop {w : World} {ad : Addr} {c : Nat} {l : List Int} (h : Txt w (some ad) c l) (n : Nat) (hn : n < l.length) : Kd.C (Kd.int .u8) w (some (ad.add n)) (l.drop n).length (l.drop n) := by
  have hr := Kd.reads_of_C (d := (0 : Int)) h.row
  have hle := h.le
  have h2 := ReadsOf.drop_ hr (c := c) n (by omega) (by omega)
  rw [if_neg (by omega)] at h2
  rw [List.length_drop]
  exact Kd.C_of_reads (d := (0 : Int)) (h1 := fun _ => rfl) h2
end Go.Proofs.Ytbebmbcjddibaaa.Gcm
