/- What is said here: arrays of bytes that are compared, or loaded out of a text. -/
import Derived.Test.YtbebmbcjddibaaaGf
import Derived.Stop.BytesEq
import Derived.Laws.Cells
namespace Go.Proofs.Ytbebmbcjddibaaa.Aes
set_option linter.unusedVariables false
set_option linter.unusedSimpArgs false
open Go.RowKit Go.Proofs.YtbebmbcjddibaaaW.PrintWords Go.Proofs.YtbebmbcjddibaaaW.PrintLast Go.Proofs.YtbebmbcjddibaaaW.PrintMore
open Gf Gfi Poly AesF
/-- Comparing, under a name that the walk does not lay open. -/
def eqq (t : TypeId) (x y : Value) : Sem Value := binOp .eql t x y
theorem eqq23 (x y : Value) : binOp .eql 37 x y = eqq 37 x y := rfl
def lst (f : Nat → B) : List UInt8 := (List.range 16).map fun q => UInt8.ofBitVec (f q)
theorem lst_cB (f : Nat → B) : (lst f).map Extern.Stop.cell = (List.range 16).map fun q => Value.int .u8 (ofB (f q)) := by
  unfold lst
  rw [List.map_map]
  rfl
def eq16 (f g : Nat → B) : Bool := lst f == lst g
theorem eq16_iff (f g : Nat → B) : eq16 f g = true ↔ Eq16 f g := by
  unfold eq16
  rw [beq_iff_eq]
  constructor
  · intro h i hi
    have h2 := congrArg (fun l => l[i]?) h
    simp only [lst, List.getElem?_map, List.getElem?_range hi, Option.map_some, Option.some.injEq] at h2
    exact congrArg UInt8.toBitVec h2
  · intro h
    unfold lst
    exact List.map_congr_left (fun i hi => by rw [h i (List.mem_range.1 hi)])
theorem eqq_run (f g : Nat → B) (W : World) : (eqq 37 (.agg (cB 16 f)) (.agg (cB 16 g))).run Try.prog W = .ok (.bool (eq16 f g)) W := by
  have h := run_eql_bytes W 37 5 16 Try.underlying37 Try.underlying5 (fun w => by kernel_rfl) (lst f) (lst g) (by simp [lst]) (by simp [lst])
  rw [lst_cB, lst_cB] at h
  exact h
theorem guard_type : Try.prog.eqGuardType Try.prog.depth 37 = false := by kernel_rfl
theorem guard23 (x y : Operand) (xs ys : Array Value) (W : World) : (eqGuard .eql 37 x y (.agg xs) (.agg ys)).run Try.prog W = .ok () W := run_eqGuard_agg (P := Try.prog) W .eql 37 x y xs ys guard_type
theorem run_eql23 (f g : Nat → B) (W : World) : (binOp .eql 37 (.agg (cB 16 f)) (.agg (cB 16 g))).run Try.prog W = .ok (.bool (eq16 f g)) W := eqq_run f g W
/-- Two arrays of sixteen bytes are compared. -/
theorem eq_op {o : Oper} {a : Act} {x y : Operand} {t : TypeId} {f g : Nat → B} (ho : o.op = .binOp .eql 37 x y t) (hx : a.eval x = .agg (cB 16 f)) (hy : a.eval y = .agg (cB 16 g)) (W : World) : (execOp a.eval o).run Try.prog W = .ok (.value (.bool (eq16 f g))) W := by
  have h1 := guard23 x y (cB 16 f) (cB 16 g) W
  have h2 := eqq_run f g W
  unfold eqq at h2
  unfold execOp
  rw [ho]
  simp only [hx, hy, Sem.run_bind, h1, h2, Result.andThen_ok, Sem.run_pure]
theorem wp_eq {o : Oper} {a : Act} {W : World} {K : Act → World → Prop} {Q : Exit → Act → World → Prop} {x y : Operand} {t : TypeId} {f g : Nat → B} (ho : o.op = .binOp .eql 37 x y t) (hx : a.eval x = .agg (cB 16 f)) (hy : a.eval y = .agg (cB 16 g)) (h : K (a.put o.dst (.bool (eq16 f g))) W) : Oper.wp Try.prog o a W K Q := by
  unfold Oper.wp
  rw [eq_op ho hx hy]
  exact h
theorem eq16_true {f g : Nat → B} (h : Eq16 f g) : eq16 f g = true := (eq16_iff f g).2 h
/-- Two arrays of sixteen bytes are compared: unlike. -/
theorem ne_op {o : Oper} {a : Act} {x y : Operand} {t : TypeId} {f g : Nat → B} (ho : o.op = .binOp .neq 37 x y t) (hx : a.eval x = .agg (cB 16 f)) (hy : a.eval y = .agg (cB 16 g)) (W : World) : (execOp a.eval o).run Try.prog W = .ok (.value (.bool (!eq16 f g))) W := by
  have h1 : (eqGuard .neq 37 x y (.agg (cB 16 f)) (.agg (cB 16 g))).run Try.prog W = .ok () W := run_eqGuard_agg (P := Try.prog) W .neq 37 x y _ _ guard_type
  have h2 : (binOp .neq 37 (.agg (cB 16 f)) (.agg (cB 16 g))).run Try.prog W = .ok (.bool (!eq16 f g)) W := by
    have h3 := run_eql23 f g W
    rw [run_eql_struct] at h3
    rw [run_neq_struct]
    cases hq : (Op.equalIn 10000 37 (.agg (cB 16 f)) (.agg (cB 16 g))).run Try.prog W with
    | ok b w' =>
      rw [hq] at h3
      simp only [Result.andThen_ok, Result.ok.injEq, Value.bool.injEq] at h3 ⊢
      obtain ⟨rfl, rfl⟩ := h3
      exact ⟨rfl, rfl⟩
    | halt q w' =>
      rw [hq] at h3
      simp [Result.andThen] at h3
  unfold execOp
  rw [ho]
  simp only [hx, hy, Sem.run_bind, h1, h2, Result.andThen_ok, Sem.run_pure]
/-- An array is loaded out of a text's own memory. -/
theorem ld_any {P : Program} (w : World) (ad : Addr) (ty : TypeId) (cs : List Value) (d : TypeDesc) (hc : ∀ j v, cs[j]? = some v → w.cell? (ad.add j) = some v)
    (hd : (match d with | .struct _ | .array _ _ => true | _ => false) = true) (hu : P.underlying ty = some d) (hi : (P.info? ty).map (·.size) = some cs.length) :
    (Blk.ld ty (.pointer (some ad))).run P w = .ok (.agg cs.toArray) w := by
  have hl : (loadCells ad cs.length).run P w = .ok cs.toArray w := run_loadCells_list (P := P) w ad cs hc
  have h : (loadVar ty ad).run P w = .ok (.agg cs.toArray) w := by
    cases hq : P.info? ty with
    | none => simp [hq] at hi
    | some i =>
      have hs : i.size = cs.length := by simpa [hq] using hi
      have hagg : (isAgg ty).run P w = .ok true w := by
        unfold isAgg
        rw [Sem.run_bind, run_underlying hu w]
        cases d <;> simp_all
      simp [loadVar, Sem.run_bind, hagg, sizeOf, typeInfo, hq, hs, hl]
  simp only [Blk.ld, Instr.loadAt, Instr.sureAddr, Sem.run_bind, Sem.run_pure, Result.andThen_ok, h]
end Go.Proofs.Ytbebmbcjddibaaa.Aes
