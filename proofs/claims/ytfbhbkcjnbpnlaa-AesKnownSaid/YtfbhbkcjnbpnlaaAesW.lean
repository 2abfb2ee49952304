/- What is said here: arrays of bytes that are compared, built and laid into new memory; keys made ready that are laid down. -/
import Derived.Test.YtfbhbkcjnbpnlaaAesP
import Derived.Stop.BytesEq
namespace Go.Proofs.Ytfbhbkcjnbpnlaa.Aes
set_option linter.unusedVariables false
set_option linter.unusedSimpArgs false
open Go.RowKit Go.Proofs.YtfbhbkcjnbpnlaaW.PrintWords Go.Proofs.YtfbhbkcjnbpnlaaW.PrintLast Go.Proofs.YtfbhbkcjnbpnlaaW.PrintMore
open Gf Gfi Poly AesF
/-- Comparing, under a name that the walk does not lay open. -/
def eqq (t : TypeId) (x y : Value) : Sem Value := binOp .eql t x y
theorem eqq23 (x y : Value) : binOp .eql 23 x y = eqq 23 x y := rfl
def lst (f : Nat → B) : List UInt8 := (List.range 16).map fun q => UInt8.ofBitVec (f q)
theorem lst_cB (f : Nat → B) : (lst f).map Extern.Stop.cell = (List.range 16).map fun q => Value.int .u8 (ofB (f q)) := by
  unfold lst
  rw [List.map_map]
  rfl
def eq16 (f g : Nat → B) : Bool := lst f == lst g
theorem eq16_iff (f g : Nat → B) : eq16 f g = true ↔ Eq16 f g := by
  unfold eq16
  rw [beq_iff_eq]
  constructor
  · intro h i hi
    have h2 := congrArg (fun l => l[i]?) h
    simp only [lst, List.getElem?_map, List.getElem?_range hi, Option.map_some, Option.some.injEq] at h2
    exact congrArg UInt8.toBitVec h2
  · intro h
    unfold lst
    exact List.map_congr_left (fun i hi => by rw [h i (List.mem_range.1 hi)])
theorem eqq_run (f g : Nat → B) (W : World) : (eqq 23 (.agg (cB 16 f)) (.agg (cB 16 g))).run Try.prog W = .ok (.bool (eq16 f g)) W := by
  have h := run_eql_bytes W 23 5 16 Try.underlying23 Try.underlying5 (fun w => by kernel_rfl) (lst f) (lst g) (by simp [lst]) (by simp [lst])
  rw [lst_cB, lst_cB] at h
  exact h
theorem guard_type : Try.prog.eqGuardType Try.prog.depth 23 = false := by kernel_rfl
theorem guard23 (x y : Operand) (xs ys : Array Value) (W : World) : (eqGuard .eql 23 x y (.agg xs) (.agg ys)).run Try.prog W = .ok () W := run_eqGuard_agg (P := Try.prog) W .eql 23 x y xs ys guard_type
theorem run_eql23 (f g : Nat → B) (W : World) : (binOp .eql 23 (.agg (cB 16 f)) (.agg (cB 16 g))).run Try.prog W = .ok (.bool (eq16 f g)) W := eqq_run f g W
/-- Two arrays of sixteen bytes are compared. -/
theorem eq_op {o : Oper} {a : Act} {x y : Operand} {t : TypeId} {f g : Nat → B} (ho : o.op = .binOp .eql 23 x y t) (hx : a.eval x = .agg (cB 16 f)) (hy : a.eval y = .agg (cB 16 g)) (W : World) : (execOp a.eval o).run Try.prog W = .ok (.value (.bool (eq16 f g))) W := by
  have h1 := guard23 x y (cB 16 f) (cB 16 g) W
  have h2 := eqq_run f g W
  unfold eqq at h2
  unfold execOp
  rw [ho]
  simp only [hx, hy, Sem.run_bind, h1, h2, Result.andThen_ok, Sem.run_pure]
theorem wp_eq {o : Oper} {a : Act} {W : World} {K : Act → World → Prop} {Q : Exit → Act → World → Prop} {x y : Operand} {t : TypeId} {f g : Nat → B} (ho : o.op = .binOp .eql 23 x y t) (hx : a.eval x = .agg (cB 16 f)) (hy : a.eval y = .agg (cB 16 g)) (h : K (a.put o.dst (.bool (eq16 f g))) W) : Oper.wp Try.prog o a W K Q := by
  unfold Oper.wp
  rw [eq_op ho hx hy]
  exact h
theorem eq16_true {f g : Nat → B} (h : Eq16 f g) : eq16 f g = true := (eq16_iff f g).2 h
theorem ld22 (x : Value) : Instr.loadAt 22 x = Blk.ld 22 x := rfl
theorem st22 (x v : Value) : Instr.storeAt 22 x v = Blk.st 22 x v := rfl
theorem bd22 (ps : Array (Nat × Value)) : Instr.build 22 ps = bd 22 ps := rfl
theorem bd23 (ps : Array (Nat × Value)) : Instr.build 23 ps = bd 23 ps := rfl
theorem bd_zero32 (W : World) : (bd 22 #[]).run Try.prog W = .ok (.agg (cB 32 z16)) W := by kernel_rfl
theorem bd_zero16 (W : World) : (bd 23 #[]).run Try.prog W = .ok (.agg (cB 16 z16)) W := by kernel_rfl
theorem st27_new (w : World) (f : Nat → B) : (Blk.st 27 (.pointer (some ⟨w.heap.size, 0, none⟩)) (.agg (cB 752 f))).run Try.prog (w.alloc (.cells (cB 752 key0) 27)) = .ok () (w.alloc (.cells (cB 752 f) 27)) :=
  run_storeAt_new w 27 _ _ (by rw [cB_size]; kernel_rfl) (by rw [cB_size, cB_size]) (cB_one 752 f)
theorem st31_new (w : World) (f : Nat → B) : (Blk.st 31 (.pointer (some ⟨w.heap.size, 0, none⟩)) (.agg (cB 752 f))).run Try.prog (w.alloc (.cells (cB 752 key0) 31)) = .ok () (w.alloc (.cells (cB 752 f) 31)) :=
  run_storeAt_new w 31 _ _ (by rw [cB_size]; kernel_rfl) (by rw [cB_size, cB_size]) (cB_one 752 f)
theorem zeroKey0 (w : World) : (zeroValue 27).run Try.prog w = .ok (.agg (cB 752 key0)) w := zeroKey w
theorem zeroRef0 (w : World) : (zeroValue 31).run Try.prog w = .ok (.agg (cB 752 key0)) w := zeroRef w
theorem ld_is {W : World} {b : Nat} {f : Nat → B} {T : TypeId} (h : Blk.Is W b (cB 752 f) T) : (Blk.ld 27 (.pointer (some ⟨b, 0, none⟩))).run Try.prog W = .ok (.agg (cB 752 f)) W := Blk.load_row h (P := Try.prog) (t := 27) Try.underlying27 rfl (by rw [cB_size]; kernel_rfl)
theorem ldr_is {W : World} {b : Nat} {f : Nat → B} {T : TypeId} (h : Blk.Is W b (cB 752 f) T) : (Blk.ld 31 (.pointer (some ⟨b, 0, none⟩))).run Try.prog W = .ok (.agg (cB 752 f)) W := Blk.load_row h (P := Try.prog) (t := 31) Try.underlying31 rfl (by rw [cB_size]; kernel_rfl)
theorem ldb_is {W : World} {b : Nat} {f : Nat → B} {T : TypeId} (h : Blk.Is W b (cB 16 f) T) : (Blk.ld 23 (.pointer (some ⟨b, 0, none⟩))).run Try.prog W = .ok (.agg (cB 16 f)) W := Blk.load_row h (P := Try.prog) (t := 23) Try.underlying23 rfl (by rw [cB_size]; kernel_rfl)
theorem ldk_is {W : World} {b : Nat} {f : Nat → B} {T : TypeId} (h : Blk.Is W b (cB 32 f) T) : (Blk.ld 22 (.pointer (some ⟨b, 0, none⟩))).run Try.prog W = .ok (.agg (cB 32 f)) W := Blk.load_row h (P := Try.prog) (t := 22) Try.underlying22 rfl (by rw [cB_size]; kernel_rfl)
end Go.Proofs.Ytfbhbkcjnbpnlaa.Aes
