/- What is said here: the program's Open; the known tag; the contracts that the laws use; the anchor works. -/
import Derived.Test.YtbebmbcjddibaaaGf
import Derived.Stop.BytesEq
import Derived.Laws.Cells
import Derived.Test.YtbebmbcjddibaaaGm1
/- What is said here: arrays of bytes that are compared, or loaded out of a text. -/
namespace Go.Proofs.Ytbebmbcjddibaaa.Aes
set_option linter.unusedVariables false
set_option linter.unusedSimpArgs false
open Go.RowKit Go.Proofs.YtbebmbcjddibaaaW.PrintWords Go.Proofs.YtbebmbcjddibaaaW.PrintLast Go.Proofs.YtbebmbcjddibaaaW.PrintMore
open Gf Gfi Poly AesF
/-- Comparing, under a name that the walk does not lay open. -/
def eqq (t : TypeId) (x y : Value) : Sem Value := binOp .eql t x y
theorem eqq23 (x y : Value) : binOp .eql 37 x y = eqq 37 x y := rfl
def lst (f : Nat → B) : List UInt8 := (List.range 16).map fun q => UInt8.ofBitVec (f q)
theorem lst_cB (f : Nat → B) : (lst f).map Extern.Stop.cell = (List.range 16).map fun q => Value.int .u8 (ofB (f q)) := by
  unfold lst
  rw [List.map_map]
  rfl
def eq16 (f g : Nat → B) : Bool := lst f == lst g
theorem eq16_iff (f g : Nat → B) : eq16 f g = true ↔ Eq16 f g := by
  unfold eq16
  rw [beq_iff_eq]
  constructor
  · intro h i hi
    have h2 := congrArg (fun l => l[i]?) h
    simp only [lst, List.getElem?_map, List.getElem?_range hi, Option.map_some, Option.some.injEq] at h2
    exact congrArg UInt8.toBitVec h2
  · intro h
    unfold lst
    exact List.map_congr_left (fun i hi => by rw [h i (List.mem_range.1 hi)])
theorem eqq_run (f g : Nat → B) (W : World) : (eqq 37 (.agg (cB 16 f)) (.agg (cB 16 g))).run Try.prog W = .ok (.bool (eq16 f g)) W := by
  have h := run_eql_bytes W 37 5 16 Try.underlying37 Try.underlying5 (fun w => by kernel_rfl) (lst f) (lst g) (by simp [lst]) (by simp [lst])
  rw [lst_cB, lst_cB] at h
  exact h
theorem guard_type : Try.prog.eqGuardType Try.prog.depth 37 = false := by kernel_rfl
theorem guard23 (x y : Operand) (xs ys : Array Value) (W : World) : (eqGuard .eql 37 x y (.agg xs) (.agg ys)).run Try.prog W = .ok () W := run_eqGuard_agg (P := Try.prog) W .eql 37 x y xs ys guard_type
theorem run_eql23 (f g : Nat → B) (W : World) : (binOp .eql 37 (.agg (cB 16 f)) (.agg (cB 16 g))).run Try.prog W = .ok (.bool (eq16 f g)) W := eqq_run f g W
/-- Two arrays of sixteen bytes are compared. -/
theorem eq_op {o : Oper} {a : Act} {x y : Operand} {t : TypeId} {f g : Nat → B} (ho : o.op = .binOp .eql 37 x y t) (hx : a.eval x = .agg (cB 16 f)) (hy : a.eval y = .agg (cB 16 g)) (W : World) : (execOp a.eval o).run Try.prog W = .ok (.value (.bool (eq16 f g))) W := by
  have h1 := guard23 x y (cB 16 f) (cB 16 g) W
  have h2 := eqq_run f g W
  unfold eqq at h2
  unfold execOp
  rw [ho]
  simp only [hx, hy, Sem.run_bind, h1, h2, Result.andThen_ok, Sem.run_pure]
theorem wp_eq {o : Oper} {a : Act} {W : World} {K : Act → World → Prop} {Q : Exit → Act → World → Prop} {x y : Operand} {t : TypeId} {f g : Nat → B} (ho : o.op = .binOp .eql 37 x y t) (hx : a.eval x = .agg (cB 16 f)) (hy : a.eval y = .agg (cB 16 g)) (h : K (a.put o.dst (.bool (eq16 f g))) W) : Oper.wp Try.prog o a W K Q := by
  unfold Oper.wp
  rw [eq_op ho hx hy]
  exact h
theorem eq16_true {f g : Nat → B} (h : Eq16 f g) : eq16 f g = true := (eq16_iff f g).2 h
/-- Two arrays of sixteen bytes are compared: unlike. -/
theorem ne_op {o : Oper} {a : Act} {x y : Operand} {t : TypeId} {f g : Nat → B} (ho : o.op = .binOp .neq 37 x y t) (hx : a.eval x = .agg (cB 16 f)) (hy : a.eval y = .agg (cB 16 g)) (W : World) : (execOp a.eval o).run Try.prog W = .ok (.value (.bool (!eq16 f g))) W := by
  have h1 : (eqGuard .neq 37 x y (.agg (cB 16 f)) (.agg (cB 16 g))).run Try.prog W = .ok () W := run_eqGuard_agg (P := Try.prog) W .neq 37 x y _ _ guard_type
  have h2 : (binOp .neq 37 (.agg (cB 16 f)) (.agg (cB 16 g))).run Try.prog W = .ok (.bool (!eq16 f g)) W := by
    have h3 := run_eql23 f g W
    rw [run_eql_struct] at h3
    rw [run_neq_struct]
    cases hq : (Op.equalIn 10000 37 (.agg (cB 16 f)) (.agg (cB 16 g))).run Try.prog W with
    | ok b w' =>
      rw [hq] at h3
      simp only [Result.andThen_ok, Result.ok.injEq, Value.bool.injEq] at h3 ⊢
      obtain ⟨rfl, rfl⟩ := h3
      exact ⟨rfl, rfl⟩
    | halt q w' =>
      rw [hq] at h3
      simp [Result.andThen] at h3
  unfold execOp
  rw [ho]
  simp only [hx, hy, Sem.run_bind, h1, h2, Result.andThen_ok, Sem.run_pure]
/-- An array is loaded out of a text's own memory. -/
theorem ld_any {P : Program} (w : World) (ad : Addr) (ty : TypeId) (cs : List Value) (d : TypeDesc) (hc : ∀ j v, cs[j]? = some v → w.cell? (ad.add j) = some v)
    (hd : (match d with | .struct _ | .array _ _ => true | _ => false) = true) (hu : P.underlying ty = some d) (hi : (P.info? ty).map (·.size) = some cs.length) :
    (Blk.ld ty (.pointer (some ad))).run P w = .ok (.agg cs.toArray) w := by
  have hl : (loadCells ad cs.length).run P w = .ok cs.toArray w := run_loadCells_list (P := P) w ad cs hc
  have h : (loadVar ty ad).run P w = .ok (.agg cs.toArray) w := by
    cases hq : P.info? ty with
    | none => simp [hq] at hi
    | some i =>
      have hs : i.size = cs.length := by simpa [hq] using hi
      have hagg : (isAgg ty).run P w = .ok true w := by
        unfold isAgg
        rw [Sem.run_bind, run_underlying hu w]
        cases d <;> simp_all
      simp [loadVar, Sem.run_bind, hagg, sizeOf, typeInfo, hq, hs, hl]
  simp only [Blk.ld, Instr.loadAt, Instr.sureAddr, Sem.run_bind, Sem.run_pure, Result.andThen_ok, h]
end Go.Proofs.Ytbebmbcjddibaaa.Aes
/- What is said here: what gcm.Open answers. -/
namespace Go.Proofs.Ytbebmbcjddibaaa.Gcm
set_option linter.unusedVariables false
set_option linter.unusedSimpArgs false
open Go.RowKit Go.Proofs.YtbebmbcjddibaaaW.PrintWords Go.Proofs.YtbebmbcjddibaaaW.PrintLast Go.Proofs.YtbebmbcjddibaaaW.PrintMore Go.Proofs.Ytbebmbcjddibaaa.PG Gf Gfi Poly AesF Aes Lng
attribute [local go_sem ↓] ld53 st53 ld23 st23 ld22 ld12
set_option maxRecDepth 100000 in
set_option maxHeartbeats 4000000 in
/-- Fewer than sixteen bytes are not opened. -/
theorem open_short (key nonce : Nat → B) (A1 A2 : Option Addr) (c1 c2 : Nat) (l1 l2 : List Int) (w : World) (hl : l2.length < 16) :
    Calls Try.prog 15 #[.agg (cB 32 key), .agg (cB 12 nonce), .slice A1 l1.length c1, .slice A2 l2.length c2] w fun e w' => e = .returned (.tuple #[.slice none 0 0, .int .i64 10]) ∧ Below w.heap.size w w' := by
  have HB0 := Lib.hid (((Below.refl _ w).alloc (Nat.le_refl _) (.cells (cB 32 key) 22)).alloc (by simp) (.cells (cB 12 nonce) 23))
  have g1 : (l2.length : Int) - 16 < 0 := by omega
  go_enter Try.func15, Try.ntmps15
  go_wp2_with fail
  go_ret2
  exact ⟨rfl, HB0.out⟩
set_option maxRecDepth 100000 in
set_option maxHeartbeats 4000000 in
/-- Too much is not opened. -/
theorem open_long (key nonce : Nat → B) (A1 A2 : Option Addr) (c1 c2 : Nat) (l1 l2 : List Int) (w : World) (n : Nat) (hn : l2.length = n + 16) (hf : n < 1000000) (hl : 65536 < l1.length ∨ 65536 < n) :
    Calls Try.prog 15 #[.agg (cB 32 key), .agg (cB 12 nonce), .slice A1 l1.length c1, .slice A2 l2.length c2] w fun e w' => e = .returned (.tuple #[.slice none 0 0, .int .i64 3]) ∧ Below w.heap.size w w' := by
  have HB0 := Lib.hid (((Below.refl _ w).alloc (Nat.le_refl _) (.cells (cB 32 key) 22)).alloc (by simp) (.cells (cB 12 nonce) 23))
  have hs : IntKind.i64.wrap ((l2.length : Int) - 16) = (n : Int) := by rw [i64_w, show (l2.length : Int) - 16 = (n : Int) by omega]; unfold wrap64; omega
  have g0 : ¬ (n : Int) < 0 := by omega
  by_cases h1 : 65536 < l1.length
  · have g1 : (l1.length : Int) > 65536 := by omega
    go_enter Try.func15, Try.ntmps15
    go_wp2_with fail
    go_ret2
    exact ⟨rfl, HB0.out⟩
  · have g1 : ¬ (l1.length : Int) > 65536 := by omega
    have g2 : (n : Int) > 65536 := by omega
    go_enter Try.func15, Try.ntmps15
    go_wp2_with fail
    go_ret2
    exact ⟨rfl, HB0.out⟩
theorem tail_ld {w : World} {ad : Addr} {c : Nat} {l : List Int} (h : Txt w (some ad) c l) (n : Nat) (hn : l.length = n + 16) : (Blk.ld 37 (.pointer (some (ad.add n)))).run Try.prog w = .ok (.agg (cB 16 (chunk l n))) w := by
  have e : cB 16 (chunk l n) = ((cB 16 (chunk l n)).toList).toArray := by simp
  rw [e]
  refine ld_any w (ad.add n) 37 _ _ ?_ rfl Try.underlying37 (by rw [Array.length_toList, cB_size]; kernel_rfl)
  intro j v hj
  rw [Array.getElem?_toList] at hj
  by_cases hj16 : j < 16
  · rw [cB_get 16 _ _ hj16] at hj
    injection hj with hj
    subst hj
    rw [Addr.add_add]
    obtain ⟨ad', e', hc⟩ := txt_cell h (n + j) (by omega)
    injection e' with e'
    subst e'
    exact hc
  · rw [Array.getElem?_eq_none (by rw [cB_size]; omega)] at hj
    exact absurd hj (by simp)
theorem Txt.take {w : World} {A : Option Addr} {c : Nat} {l : List Int} (h : Txt w A c l) (n : Nat) (hn : n ≤ l.length) : Txt w A c (l.take n) := by
  have hr := (Kd.reads_of_C (d := (0 : Int)) h.row).take_ n hn
  have hl : (l.take n).length = n := by rw [List.length_take]; omega
  refine ⟨?_, by rw [hl]; have := h.le; omega, fun x hx => h.by_ x (List.mem_of_mem_take hx), by rw [hl]; have := h.few; omega⟩
  rw [hl]
  exact Kd.C_of_reads (d := (0 : Int)) (h1 := fun _ => rfl) hr
section
variable {ops : Array Oper} {Q : Exit → Act → World → Prop}
/-- A call of a closure, in a region that draws its order. -/
theorem goesC_ {P : Program} {oi : Oper} {N : Option Tmp} {a : Act} {w : World} {K : Act → World → Prop} {f : FuncId} {fn : Func} {x : Operand} {caps : Array Value} (hf : P.funcs[f]? = some fn) (hname : (fn.name == "runtime.NumGoroutine") = false) (hb : fn.body.isSome = true)
    (hw : Region.wanted oi (yielded ops a.tmps) = true) (hN : oi.dst = N) (hop : oi.op = .call { callee := .value x, args := #[], argTypes := #[] }) (hx : a.eval x = .func (.func f) #[] caps)
    (h : Calls P f caps w fun e w' => ∃ v, e = .returned v ∧ K (a.put N v) w') : if Region.wanted oi (yielded ops a.tmps) = true then Oper.wp P oi a w K Q else K (a.put N undef) w := by
  refine call_ f caps hw hN ?_ h
  have he := enters_ hf hname hb caps w
  unfold execOp
  simp [hop, resolve, Deferred.ofValue, invoke, hx, he]
end
set_option maxRecDepth 100000 in
set_option maxHeartbeats 4000000 in
theorem open_calls (key nonce kc : Nat → B) (E : (Nat → B) → Nat → B) (hE : ∀ (b : Nat → B) (w : World), Calls Try.prog 35 #[.agg (cB 752 kc), .agg (cB 16 b)] w fun e w' => e = .returned (.agg (cB 16 (E b))) ∧ Below w.heap.size w w')
    (hX : ∀ w : World, Calls Try.prog 22 #[.agg (cB 32 key)] w fun e w' => e = .returned (.agg (cB 752 kc)) ∧ Below w.heap.size w w')
    (A1 A2 : Option Addr) (c1 c2 : Nat) (l1 l2 : List Int) (w : World) (h1 : Txt w A1 c1 l1) (h2 : Txt w A2 c2 l2) (n : Nat) (hn : l2.length = n + 16) (hs1 : l1.length ≤ 65536) (hs2 : n ≤ 65536)
    (d : Bool) (hd : d = eq16 (tagF (E (ctr nonce 1)) (ghash (blkW (E z16)) l1 (l2.take n))) (chunk l2 n)) :
    Calls Try.prog 15 #[.agg (cB 32 key), .agg (cB 12 nonce), .slice A1 l1.length c1, .slice A2 l2.length c2] w fun e w' =>
      ∃ v, e = .returned (.tuple #[v, .int .i64 (if d = true then 0 else 60)]) ∧ Row.Is w' w.heap.size v (if d = true then bodyL E nonce (l2.take n) else []) ∧ Below w.heap.size w w' := by
  obtain ⟨ad, rfl, _⟩ := txt_cell h2 0 (by omega)
  have e1 : (w.alloc (.cells (cB 32 key) 22)).heap.size = w.heap.size + 1 := by simp
  have HK0 := Lib.hid ((Blk.Is.new w (cB 32 key) 22).alloc (.cells (cB 12 nonce) 23))
  have HN0 := Lib.hid (Blk.Is.new (w.alloc (.cells (cB 32 key) 22)) (cB 12 nonce) 23)
  rw [e1] at HN0
  have HB0 := Lib.hid (((Below.refl _ w).alloc (Nat.le_refl _) (.cells (cB 32 key) 22)).alloc (by omega) (.cells (cB 12 nonce) 23))
  have HT1 : Hid (∀ v : World, Below w.heap.size w v → Txt v A1 c1 l1) := fun v hb => h1.below hb
  have HT2 : Hid (∀ v : World, Below w.heap.size w v → Txt v (some ad) c2 l2) := fun v hb => h2.below hb
  have HT2W := Lib.hid h2
  have HTL : Hid ((l2.take n).length = n) := by show (l2.take n).length = n; rw [List.length_take]; omega
  have HT2N := Lib.hid (h2.take n (by omega))
  have HTB : Hid (∀ v : World, Below w.heap.size w v → Txt v (some ad) c2 (l2.take n)) := fun v hb => (h2.take n (by omega)).below hb
  have HD := Lib.hid hd
  have hs : IntKind.i64.wrap ((l2.length : Int) - 16) = (n : Int) := by rw [i64_w, show (l2.length : Int) - 16 = (n : Int) by omega]; unfold wrap64; omega
  have hle := h2.le
  have hat : ∀ W, (Instr.arrayAt 37 (.slice (some (ad.add n)) 16 (c2 - n))).run Try.prog W = .ok (.pointer (some (ad.add n))) W := fun W => run_arrayAt W 37 _ 16 _ 16 _ Try.underlying37 (Nat.le_refl _)
  have g0 : ¬ (n : Int) < 0 := by omega
  have hcn : ¬ c2 = n := by omega
  have hln : l2.length - n = 16 := by omega
  have hnc : n ≤ c2 := by omega
  have hnl : n ≤ l2.length := by omega
  have HNN := Lib.hid hn
  clear e1 h1 h2 hd hn
  have hzk := zeroKey53
  have g1 : ¬ (l1.length : Int) > 65536 := by omega
  have g2 : ¬ (n : Int) > 65536 := by omega
  have lk := Blk.load_row HK0.out (P := Try.prog) (t := 22) Try.underlying22 rfl (by rw [cB_size]; kernel_rfl)
  go_enter Try.func15, Try.ntmps15
  go_wp2_with fail
  clear lk g0 g1 g2
  generalize (w.alloc (.cells (cB 32 key) 22)).alloc (.cells (cB 12 nonce) 23) = w0 at *
  refine (hX w0).mono ?_
  rintro e w1 ⟨rfl, hb⟩
  generalize hg : w.heap.size = g at *
  have HG := Lib.hid hg
  clear hg
  have HN1 := Lib.hid (HN0.out.below hb HN0.out.lt)
  have HB1 := Lib.hid (HB0.out.trans (hb.mono (by have := HN0.out.lt; omega)))
  clear hb HK0 HN0 HB0
  have hst := st53_new w1 kc
  have HK2 := Lib.hid (Blk.Is.new w1 (cB 752 kc) 53)
  have HN2 := Lib.hid (HN1.out.alloc (.cells (cB 752 kc) 53))
  have HB2 := Lib.hid (HB1.out.alloc (by have := HN1.out.lt; omega) (.cells (cB 752 kc) 53))
  have HGK := Lib.hid (show g + 1 < w1.heap.size from HN1.out.lt)
  clear HN1 HB1
  have lk := Blk.load_row HK2.out (P := Try.prog) (t := 53) Try.underlying53 rfl (by rw [cB_size]; kernel_rfl)
  have ln := Blk.load_row HN2.out (P := Try.prog) (t := 23) Try.underlying23 rfl (by rw [cB_size]; kernel_rfl)
  go_wp2_with fail
  clear hst lk ln hzk
  generalize w1.alloc (.cells (cB 752 kc) 53) = w2 at *
  generalize w1.heap.size = gk0 at *
  refine (stream_calls kc nonce w2).mono ?_
  rintro e w3 ⟨gn, gc, gk, rfl, hS, hgn, hgc, hgk, hb⟩
  unfold strV
  have HS3 := Lib.hid hS
  have HK3 := Lib.hid (HK2.out.below hb HK2.out.lt)
  have HB3 := Lib.hid (HB2.out.trans (hb.mono (by have := HK2.out.lt; have := HGK.out; omega)))
  have HNE := Lib.hid (show gk0 < gn ∧ gk0 < gc from ⟨Nat.lt_of_lt_of_le HK2.out.lt hgn, Nat.lt_of_lt_of_le HK2.out.lt hgc⟩)
  clear hS hgn hgc hgk hb HN2 HK2 HB2
  go_wp2_with fail
  -- region 8
  refine start_ (n := 14) (S := fun w' => (Blk.ld 53 (.pointer (some ⟨gk0, 0, none⟩))).run Try.prog w' = .ok (.agg (cB 752 kc)) w' ∧ (Blk.ld 37 (.pointer (some (ad.add n)))).run Try.prog w' = .ok (.agg (cB 16 (chunk l2 n))) w') (ds := []) #[false, false, false, false, false, false, false, false, false, false, false, false, false, false] (by kernel_rfl) rfl rfl ⟨(Blk.load_row HK3.out.drew (P := Try.prog) (t := 53) Try.underlying53 rfl (by rw [cB_size]; kernel_rfl)), (tail_ld (HT2.out _ HB3.out.drew) n HNN.out)⟩ (fun hHeld => ?_)
  have HK4 := Lib.hid HK3.out.drew
  have HB4 := Lib.hid HB3.out.drew
  have HS4 : Hid (Str w3.drew gn gc gk kc nonce 0) := Lib.hid (HS3.out.below (Below.refl _ w3).drew)
  clear HK3 HB3 HS3
  generalize w3.drew = w4 at *
  refine pure_ (i := 1) (N := some 33) (v := ?_) (a' := ?_) #[false, true, false, false, false, false, false, false, false, false, false, false, false, false] rfl rfl (by kernel_rfl) (fun _ _ _ h => h) (Or.inl ⟨by rfl, ?_⟩) ?_ ?_
  rotate_left
  · intro w'
    go_simp
    with_reducible rfl
  rotate_left
  · simp only [Act.put, List.setIfInBounds_toArray, List.set_cons_zero, List.set_cons_succ, i64_w, i32_w]
    rfl
  refine pure_ (i := 3) (N := some 35) (v := ?_) (a' := ?_) #[false, true, false, true, false, false, false, false, false, false, false, false, false, false] rfl rfl (by kernel_rfl) (fun _ _ _ h => h) (Or.inl ⟨by rfl, ?_⟩) ?_ ?_
  rotate_left
  · intro w'
    go_simp
    with_reducible rfl
  rotate_left
  · simp only [Act.put, List.setIfInBounds_toArray, List.set_cons_zero, List.set_cons_succ, i64_w, i32_w]
    rfl
  refine pure_ (i := 4) (N := some 36) (v := ?_) (a' := ?_) #[false, true, false, true, true, false, false, false, false, false, false, false, false, false] rfl rfl (by kernel_rfl) (fun _ _ _ h => h) (Or.inl ⟨by rfl, ?_⟩) ?_ ?_
  rotate_left
  · intro w'
    go_simp
    with_reducible rfl
  rotate_left
  · simp only [Act.put, List.setIfInBounds_toArray, List.set_cons_zero, List.set_cons_succ, i64_w, i32_w]
    rfl
  refine pure_ (i := 5) (N := some 37) (v := ?_) (a' := ?_) #[false, true, false, true, true, true, false, false, false, false, false, false, false, false] rfl rfl (by kernel_rfl) (fun _ _ _ h => h) (Or.inl ⟨by rfl, ?_⟩) ?_ ?_
  rotate_left
  · intro w'
    go_simp
    with_reducible rfl
  rotate_left
  · simp only [Act.put, List.setIfInBounds_toArray, List.set_cons_zero, List.set_cons_succ, i64_w, i32_w]
    rfl
  refine pure_ (i := 6) (N := some 38) (v := ?_) (a' := ?_) #[false, true, false, true, true, true, true, false, false, false, false, false, false, false] rfl rfl (by kernel_rfl) (fun _ _ _ h => h) (Or.inl ⟨by rfl, ?_⟩) ?_ ?_
  rotate_left
  · intro w'
    go_simp
    with_reducible rfl
  rotate_left
  · simp only [Act.put, List.setIfInBounds_toArray, List.set_cons_zero, List.set_cons_succ, i64_w, i32_w]
    rfl
  refine pure_ (i := 8) (N := some 40) (v := ?_) (a' := ?_) #[false, true, false, true, true, true, true, false, true, false, false, false, false, false] rfl rfl (by kernel_rfl) (fun _ _ _ h => h) (Or.inl ⟨by rfl, ?_⟩) ?_ ?_
  rotate_left
  · intro w'
    go_simp
    with_reducible rfl
  rotate_left
  · simp only [Act.put, List.setIfInBounds_toArray, List.set_cons_zero, List.set_cons_succ, i64_w, i32_w]
    rfl
  refine pure_ (i := 9) (N := some 41) (v := ?_) (a' := ?_) #[false, true, false, true, true, true, true, false, true, true, false, false, false, false] rfl rfl (by kernel_rfl) (fun _ _ _ h => h) (Or.inl ⟨by rfl, ?_⟩) ?_ ?_
  rotate_left
  · intro w'
    go_simp
    with_reducible rfl
  rotate_left
  · simp only [Act.put, List.setIfInBounds_toArray, List.set_cons_zero, List.set_cons_succ, i64_w, i32_w]
    rfl
  refine pure_ (i := 10) (N := some 42) (v := ?_) (a' := ?_) #[false, true, false, true, true, true, true, false, true, true, true, false, false, false] rfl rfl (by kernel_rfl) (fun _ _ _ h => h) (Or.inl ⟨by rfl, ?_⟩) ?_ ?_
  rotate_left
  · intro w'
    go_simp
    with_reducible rfl
  rotate_left
  · simp only [Act.put, List.setIfInBounds_toArray, List.set_cons_zero, List.set_cons_succ, i64_w, i32_w]
    rfl
  refine pure_ (i := 11) (N := some 43) (v := ?_) (a' := ?_) #[false, true, false, true, true, true, true, false, true, true, true, true, false, false] rfl rfl (by kernel_rfl) (fun _ _ _ h => h) (Or.inl ⟨by rfl, ?_⟩) ?_ ?_
  rotate_left
  · intro w'
    go_simp
    with_reducible rfl
  rotate_left
  · simp only [Act.put, List.setIfInBounds_toArray, List.set_cons_zero, List.set_cons_succ, i64_w, i32_w]
    rfl
  refine take_ (i := 0) (N := some 32) (v := ?_) (a' := ?_) #[true, true, false, true, true, true, true, false, true, true, true, true, false, false] rfl rfl (by kernel_rfl) (fun _ _ _ h => h) (Or.inl ⟨by rfl, ?_⟩) hHeld ?_ ?_
  rotate_left
  · rintro w' ⟨s0, s1⟩
    go_simp
    with_reducible rfl
  rotate_left
  · simp only [Act.put, List.setIfInBounds_toArray, List.set_cons_zero, List.set_cons_succ, i64_w, i32_w]
    rfl
  refine take_ (i := 12) (N := some 44) (v := ?_) (a' := ?_) #[true, true, false, true, true, true, true, false, true, true, true, true, true, false] rfl rfl (by kernel_rfl) (fun _ _ _ h => h) (Or.inl ⟨by rfl, ?_⟩) hHeld ?_ ?_
  rotate_left
  · rintro w' ⟨s0, s1⟩
    go_simp
    with_reducible rfl
  rotate_left
  · simp only [Act.put, List.setIfInBounds_toArray, List.set_cons_zero, List.set_cons_succ, i64_w, i32_w]
    rfl
  refine one_ (i := 2) (N := some 34) #[true, true, true, true, true, true, true, false, true, true, true, true, true, false] rfl rfl (by kernel_rfl) (by decide) (fun K hK => ?_)
  refine goesC_ Try.func34 (by kernel_rfl) rfl (by rfl) rfl rfl (by rfl) ?_
  with_reducible refine (next_calls gn gc gk kc nonce E hE 0 (by decide) w4 HS4.out).mono ?_
  rintro e w5 ⟨rfl, hS5, hW5⟩
  refine ⟨_, rfl, ?_⟩
  have HK5 := Lib.hid (hW5.is HK4.out (by have := HNE.out; omega) (by have := HNE.out; omega))
  have HB5 := Lib.hid (HB4.out.trans (hW5.below g (by have := HNE.out; have := HGK.out; omega) (by have := HNE.out; have := HGK.out; omega) (by have := HK4.out.lt; have := HGK.out; omega)))
  have HS5 := Lib.hid hS5
  clear hS5 hW5 HS4 HK4 HB4
  obtain ⟨f1, hf1⟩ : ∃ f1, f1 = E (ctr nonce (0 + 1)) := ⟨_, rfl⟩
  rw [← hf1]
  have HF1 := Lib.hid hf1
  clear hf1
  refine hK.out _ _ ⟨(Blk.load_row HK5.out (P := Try.prog) (t := 53) Try.underlying53 rfl (by rw [cB_size]; kernel_rfl)), (tail_ld (HT2.out _ HB5.out) n HNN.out)⟩ (fun hHeld => ?_)
  clear hK K
  refine norm_ (a' := ?_) ?_ ?_
  rotate_left
  · show Act.put _ (some 34) _ = _
    simp only [Act.put, List.setIfInBounds_toArray, List.set_cons_zero, List.set_cons_succ, i64_w, i32_w]
    rfl
  refine one_ (i := 7) (N := some 39) #[true, true, true, true, true, true, true, true, true, true, true, true, true, false] rfl rfl (by kernel_rfl) (by decide) (fun K hK => ?_)
  refine goes_ Try.func25 (by kernel_rfl) rfl #[.agg (cB 752 kc), .agg (cB 16 f1), .slice A1 l1.length c1, .slice (some ad) n c2] (by rfl) rfl rfl (by simp only [List.map_toArray, List.map_cons, List.map_nil]; rfl) ?_
  have htag := tag_calls kc E hE f1 A1 (some ad) c1 c2 l1 (l2.take n) w5 (HT1.out w5 HB5.out) (HTB.out w5 HB5.out)
  rw [HTL.out] at htag
  with_reducible refine htag.mono ?_
  rintro e w6 ⟨rfl, hb⟩
  refine ⟨_, rfl, ?_⟩
  have HK6 := Lib.hid (HK5.out.below hb HK5.out.lt)
  have HB6 := Lib.hid (HB5.out.trans (hb.mono (by have := HK5.out.lt; have := HGK.out; omega)))
  have HS6 := Lib.hid (HS5.out.below hb)
  clear hb htag HK5 HB5 HS5
  obtain ⟨tg, htg⟩ : ∃ tg, tg = tagF f1 (ghash (blkW (E z16)) l1 (l2.take n)) := ⟨_, rfl⟩
  rw [← htg]
  have heq : (!eq16 tg (chunk l2 n)) = !d := by rw [htg, HF1.out, HD.out]
  clear htg
  refine hK.out _ _ ⟨(Blk.load_row HK6.out (P := Try.prog) (t := 53) Try.underlying53 rfl (by rw [cB_size]; kernel_rfl)), (tail_ld (HT2.out _ HB6.out) n HNN.out)⟩ (fun hHeld => ?_)
  clear hK K
  refine norm_ (a' := ?_) ?_ ?_
  rotate_left
  · show Act.put _ (some 39) _ = _
    simp only [Act.put, List.setIfInBounds_toArray, List.set_cons_zero, List.set_cons_succ, i64_w, i32_w]
    rfl
  refine pure_ (i := 13) (N := some 45) (v := ?_) (a' := ?_) #[true, true, true, true, true, true, true, true, true, true, true, true, true, true] rfl rfl (by kernel_rfl) (fun _ _ _ h => h) (Or.inl ⟨by rfl, ?_⟩) ?_ ?_
  rotate_left
  · intro w'
    refine (ne_op (by rfl) (by rfl) (by rfl) _).trans ?_
    rw [heq]
  rotate_left
  · simp only [Act.put, List.setIfInBounds_toArray, List.set_cons_zero, List.set_cons_succ, i64_w, i32_w]
    rfl
  refine done_ (by kernel_rfl) ?_
  -- behind it 8
  clear hat hcn hln
  cases d with
  | false =>
    have hd : (!false) = true := rfl
    go_wp2_with fail
    go_ret2
    exact ⟨_, rfl, Row.Is.nil _ _, by rw [HG.out]; exact HB6.out⟩
  | true =>
    go_wp2_with fail
    have hturn := turn_calls gn gc gk kc nonce E hE (some ad) c2 (l2.take n) 1 (by decide) w w6 HT2N.out (by rw [HG.out]; exact HB6.out) (by rw [HG.out]; have := HNE.out; have := HGK.out; omega) (by rw [HG.out]; have := HNE.out; have := HGK.out; omega) HS6.out (by rw [HTL.out]; omega)
    have HBE : Hid (outL E nonce 1 (l2.take n) (l2.take n).length = bodyL E nonce (l2.take n)) := rfl
    rw [HTL.out] at hturn HBE
    unfold strV at hturn
    refine hturn.mono ?_
    rintro e w7 ⟨v, rfl, hR, _, hW7⟩
    rw [HBE.out] at hR
    have HR7 := Lib.hid hR
    have HB7 := Lib.hid (HB6.out.trans (hW7.below g (by have := HNE.out; have := HGK.out; omega) (by have := HNE.out; have := HGK.out; omega) (by have := HK6.out.lt; have := HGK.out; omega)))
    have HG6 := Lib.hid (show g ≤ w6.heap.size by have := HK6.out.lt; have := HGK.out; omega)
    clear hturn hR hW7 HBE
    go_wp2_with fail
    go_ret2
    exact ⟨v, rfl, HR7.out.lower (by rw [HG.out]; exact HG6.out), by rw [HG.out]; exact HB7.out⟩
end Go.Proofs.Ytbebmbcjddibaaa.Gcm
/- What is said here: two known blocks under the key of noughts, by tables that are checked place by place; the known tag, and another one. -/
namespace Go.Proofs.Ytbebmbcjddibaaa.Aes
set_option linter.unusedVariables false
set_option linter.unusedSimpArgs false
open Gf Gfi Poly AesF
def sL : List Nat := [99, 124, 119, 123, 242, 107, 111, 197, 48, 1, 103, 43, 254, 215, 171, 118, 202, 130, 201, 125, 250, 89, 71, 240, 173, 212, 162, 175, 156, 164, 114, 192, 183, 253, 147, 38, 54, 63, 247, 204, 52, 165, 229, 241, 113, 216, 49, 21, 4, 199, 35, 195, 24, 150, 5, 154, 7, 18, 128, 226, 235, 39, 178, 117, 9, 131, 44, 26, 27, 110, 90, 160, 82, 59, 214, 179, 41, 227, 47, 132, 83, 209, 0, 237, 32, 252, 177, 91, 106, 203, 190, 57, 74, 76, 88, 207, 208, 239, 170, 251, 67, 77, 51, 133, 69, 249, 2, 127, 80, 60, 159, 168, 81, 163, 64, 143, 146, 157, 56, 245, 188, 182, 218, 33, 16, 255, 243, 210, 205, 12, 19, 236, 95, 151, 68, 23, 196, 167, 126, 61, 100, 93, 25, 115, 96, 129, 79, 220, 34, 42, 144, 136, 70, 238, 184, 20, 222, 94, 11, 219, 224, 50, 58, 10, 73, 6, 36, 92, 194, 211, 172, 98, 145, 149, 228, 121, 231, 200, 55, 109, 141, 213, 78, 169, 108, 86, 244, 234, 101, 122, 174, 8, 186, 120, 37, 46, 28, 166, 180, 198, 232, 221, 116, 31, 75, 189, 139, 138, 112, 62, 181, 102, 72, 3, 246, 14, 97, 53, 87, 185, 134, 193, 29, 158, 225, 248, 152, 17, 105, 217, 142, 148, 155, 30, 135, 233, 206, 85, 40, 223, 140, 161, 137, 13, 191, 230, 66, 104, 65, 153, 45, 15, 176, 84, 187, 22]
def stab (n : Nat) : B := BitVec.ofNat 8 (sL.getD n 0)
theorem sb_tab (x : B) : sb x = stab x.toNat := all_bits (P := fun x => sb x = stab x.toNat) (by decide +kernel) x
def tab (L : List Nat) (p : Nat) : B := BitVec.ofNat 8 (L.getD p 0)
def check1 (key : Nat → B) (L : List Nat) : Bool := (List.range 240).all fun p => if p / 4 < 8 then key p == tab L p else tab L p == tab L (p - 32) ^^^ tw stab (fac (p / 4 / 8 - 1)) (p / 4) (tab L) (p % 4)
def roundT (L : List Nat) (r : Nat) (st : Nat → B) : Nat → B := fun i => mixR r (shiftS (fun i => stab (st i).toNat)) i ^^^ tab L (16 * r + i)
def tb (T : List (List Nat)) (r : Nat) : Nat → B := tab (T.getD r [])
def check2 (b : Nat → B) (L : List Nat) (T : List (List Nat)) : Bool := (List.range 16).all (fun i => tb T 0 i == b i ^^^ tab L i) && (List.range 14).all fun r => (List.range 16).all fun i => roundT L (r + 1) (tb T r) i == tb T (r + 1) i
-- the words, once they are there, stay
theorem word_keep (key S : Nat → B) (m : Nat) : ∀ d p, p < 4 * m → wordN key S (m + d) p = wordN key S m p := by
  intro d
  induction d with
  | zero => intro p _; rfl
  | succ d ih =>
    intro p hp
    show blend (wordN key S (m + d)) (4 * (m + d)) 4 _ p = _
    unfold blend
    rw [if_neg (by omega)]
    exact ih p hp
theorem word_at (key S : Nat → B) (i q : Nat) (hi : i < 60) (hq : q < 4) : wordN key S 60 (4 * i + q) = newWord key S i (wordN key S i) q := by
  obtain ⟨d, hd⟩ : ∃ d, 60 = (i + 1) + d := ⟨60 - (i + 1), by omega⟩
  rw [hd, word_keep key S (i + 1) d _ (by omega)]
  show blend (wordN key S i) (4 * i) 4 _ (4 * i + q) = _
  unfold blend
  rw [if_pos (by omega), Nat.add_sub_cancel_left]
theorem tw_congr (S S' : Nat → B) (fc : B) (i : Nat) (W W' : Nat → B) (q : Nat) (hi : 1 ≤ i) (hq : q < 4) (hS : ∀ x : B, S x.toNat = S' x.toNat) (h : ∀ p, p < 4 * i → W p = W' p) : tw S fc i W q = tw S' fc i W' q := by
  have h1 := h (4 * (i - 1) + 1) (by omega)
  have h2 := h (4 * (i - 1) + (q + 1) % 4) (by omega)
  have h3 := h (4 * (i - 1) + q) (by omega)
  unfold tw
  rw [h1, h2, h3, hS, hS, hS]
theorem words_of (key : Nat → B) (L : List Nat) (h : check1 key L = true) : ∀ n p, p < 4 * n → n ≤ 60 → wordN key (subN 256) 60 p = tab L p := by
  intro n
  induction n with
  | zero => intro p hp; omega
  | succ n ih =>
    intro p hp hn
    by_cases h0 : p < 4 * n
    · exact ih p h0 (by omega)
    · obtain ⟨q, rfl⟩ : ∃ q, p = 4 * n + q := ⟨p - 4 * n, by omega⟩
      have hq : q < 4 := by omega
      have hc := List.all_eq_true.1 h (4 * n + q) (List.mem_range.2 (by omega))
      have e1 : (4 * n + q) / 4 = n := by omega
      have e2 : (4 * n + q) % 4 = q := by omega
      rw [e1, e2] at hc
      rw [word_at key _ n q (by omega) hq]
      by_cases h8 : n < 8
      · rw [if_pos h8, beq_iff_eq] at hc
        unfold newWord
        rw [if_pos h8, hc]
      · rw [if_neg h8, beq_iff_eq] at hc
        obtain ⟨d, hd⟩ : ∃ d, 60 = n + d := ⟨60 - n, by omega⟩
        have hk : ∀ p, p < 4 * n → wordN key (subN 256) n p = tab L p := fun p hp => by
          have h2 := ih p hp (by omega)
          rw [hd, word_keep key _ n d p hp] at h2
          exact h2
        rw [newWord_high key _ n h8, hk _ (by omega), hc, show 4 * (n - 8) + q = 4 * n + q - 32 by omega]
        congr 1
        exact tw_congr _ _ _ _ _ _ _ (by omega) hq (fun x => by rw [subN_at, sb_tab]) hk
theorem run_of (key b : Nat → B) (L : List Nat) (T : List (List Nat)) (h1 : check1 key L = true) (h2 : check2 b L T = true) : ∀ r, r ≤ 14 → Eq16 (bl (keyK key) b r) (tb T r) := by
  have hW := words_of key L h1 60
  have hK : ∀ p, p < 240 → keyK key p = tab L p := fun p hp => by
    unfold keyK blend
    rw [if_pos (by omega), Nat.sub_zero]
    exact hW p (by omega) (Nat.le_refl _)
  unfold check2 at h2
  rw [Bool.and_eq_true] at h2
  intro r
  induction r with
  | zero =>
    intro _ i hi
    have hc := List.all_eq_true.1 h2.1 i (List.mem_range.2 hi)
    rw [beq_iff_eq] at hc
    rw [hc]
    show b i ^^^ keyK key (16 * 0 + i) = _
    rw [hK _ (by omega), show 16 * 0 + i = i by omega]
  | succ r ih =>
    intro hr
    have hc := List.all_eq_true.1 h2.2 r (List.mem_range.2 (by omega))
    refine (round_c (r + 1) (ih (by omega))).trans (fun i hi => ?_)
    have hd := List.all_eq_true.1 hc i (List.mem_range.2 hi)
    rw [beq_iff_eq] at hd
    rw [← hd]
    unfold roundS roundT addS
    have e : swapS (keyK key) (tb T r) = fun i => stab (tb T r i).toNat := by
      funext j
      show keyK key (240 + (tb T r j).toNat) = _
      rw [(keyK_ready key).sub, sb_tab]
    rw [e, hK _ (by omega)]
def wz : List Nat := [0, 0, 0, 0, 0, 0, 0, 0, 0, 0, 0, 0, 0, 0, 0, 0, 0, 0, 0, 0, 0, 0, 0, 0, 0, 0, 0, 0, 0, 0, 0, 0, 98, 99, 99, 99, 98, 99, 99, 99, 98, 99, 99, 99, 98, 99, 99, 99, 170, 251, 251, 251, 170, 251, 251, 251, 170, 251, 251, 251, 170, 251, 251, 251, 111, 108, 108, 207, 13, 15, 15, 172, 111, 108, 108, 207, 13, 15, 15, 172, 125, 141, 141, 106, 215, 118, 118, 145, 125, 141, 141, 106, 215, 118, 118, 145, 83, 84, 237, 193, 94, 91, 226, 109, 49, 55, 142, 162, 60, 56, 129, 14, 150, 138, 129, 193, 65, 252, 247, 80, 60, 113, 122, 58, 235, 7, 12, 171, 158, 170, 143, 40, 192, 241, 109, 69, 241, 198, 227, 231, 205, 254, 98, 233, 43, 49, 43, 223, 106, 205, 220, 143, 86, 188, 166, 181, 189, 187, 170, 30, 100, 6, 253, 82, 164, 247, 144, 23, 85, 49, 115, 240, 152, 207, 17, 25, 109, 187, 169, 11, 7, 118, 117, 132, 81, 202, 211, 49, 236, 113, 121, 47, 231, 176, 232, 156, 67, 71, 120, 139, 22, 118, 11, 123, 142, 185, 26, 98, 116, 237, 11, 161, 115, 155, 126, 37, 34, 81, 173, 20, 206, 32, 212, 59, 16, 248, 10, 23, 83, 191, 114, 156, 69, 201, 121, 231, 203, 112, 99, 133]
def tz : List (List Nat) := [[0, 0, 0, 0, 0, 0, 0, 0, 0, 0, 0, 0, 0, 0, 0, 0], [99, 99, 99, 99, 99, 99, 99, 99, 99, 99, 99, 99, 99, 99, 99, 99], [153, 152, 152, 152, 153, 152, 152, 152, 153, 152, 152, 152, 153, 152, 152, 152], [167, 21, 21, 94, 167, 21, 21, 94, 167, 21, 21, 94, 167, 21, 21, 94], [61, 49, 51, 155, 95, 82, 80, 248, 61, 49, 51, 155, 95, 82, 80, 248], [177, 181, 244, 66, 71, 205, 228, 103, 177, 181, 244, 66, 71, 205, 228, 103], [62, 162, 105, 145, 36, 221, 49, 114, 92, 193, 10, 242, 70, 190, 82, 17], [84, 138, 161, 181, 36, 187, 33, 107, 248, 44, 183, 51, 95, 242, 121, 177], [154, 109, 79, 128, 92, 49, 57, 105, 190, 167, 206, 97, 244, 18, 108, 189], [227, 224, 215, 180, 135, 2, 38, 220, 44, 245, 194, 248, 97, 165, 39, 47], [239, 131, 238, 25, 250, 245, 110, 5, 53, 216, 137, 124, 211, 186, 41, 167], [2, 29, 33, 136, 143, 185, 15, 132, 34, 188, 92, 154, 128, 126, 230, 214], [79, 67, 92, 238, 64, 179, 62, 102, 135, 91, 107, 101, 54, 5, 76, 151], [39, 186, 159, 47, 43, 179, 100, 126, 200, 125, 16, 106, 21, 145, 99, 6], [220, 149, 192, 120, 162, 64, 137, 137, 173, 72, 162, 20, 146, 132, 32, 135]]
def tn : List (List Nat) := [[0, 0, 0, 0, 0, 0, 0, 0, 0, 0, 0, 0, 0, 0, 0, 1], [124, 124, 66, 93, 99, 99, 99, 99, 99, 99, 99, 99, 99, 99, 99, 99], [84, 115, 115, 190, 46, 47, 90, 237, 78, 250, 45, 79, 191, 85, 115, 115], [130, 13, 239, 83, 158, 180, 11, 77, 49, 232, 210, 83, 10, 171, 140, 193], [8, 194, 11, 50, 36, 104, 123, 143, 96, 246, 82, 253, 103, 77, 197, 56], [213, 48, 241, 113, 248, 22, 48, 105, 160, 142, 125, 47, 220, 142, 104, 169], [176, 16, 34, 193, 17, 68, 206, 175, 153, 228, 62, 200, 54, 175, 52, 181], [9, 67, 102, 235, 133, 252, 164, 76, 154, 186, 91, 11, 199, 227, 237, 46], [95, 170, 31, 192, 78, 131, 132, 143, 179, 32, 87, 68, 22, 252, 81, 189], [160, 170, 48, 214, 157, 69, 40, 247, 244, 130, 117, 148, 152, 69, 210, 18], [89, 79, 18, 19, 110, 189, 173, 164, 238, 54, 18, 144, 237, 180, 245, 15], [209, 178, 11, 18, 182, 175, 191, 39, 13, 234, 36, 159, 36, 243, 57, 1], [90, 90, 71, 105, 150, 227, 213, 69, 83, 10, 200, 188, 104, 34, 125, 170], [100, 254, 128, 194, 231, 38, 124, 255, 131, 20, 58, 215, 251, 98, 134, 131], [83, 15, 138, 251, 199, 69, 54, 185, 169, 99, 180, 241, 196, 203, 115, 139]]
end Go.Proofs.Ytbebmbcjddibaaa.Aes
namespace Go.Proofs.Ytbebmbcjddibaaa.Gcm
set_option linter.unusedVariables false
set_option linter.unusedSimpArgs false
open Gf Gfi Poly AesF Aes Lng
theorem zero1 : check1 z16 wz = true := by decide +kernel
theorem zero2 : check2 z16 wz tz = true := by decide +kernel
theorem zero3 : check2 (ctr z16 1) wz tn = true := by decide +kernel
/-- Block by a ready key. -/
def encB (K : Nat → B) (b : Nat → B) : Nat → B := bl K b 14
theorem zero_H : Eq16 (encB (keyK z16) z16) (tab [220, 149, 192, 120, 162, 64, 137, 137, 173, 72, 162, 20, 146, 132, 32, 135]) := run_of z16 z16 wz tz zero1 zero2 14 (Nat.le_refl _)
theorem zero_E : Eq16 (encB (keyK z16) (ctr z16 1)) (tab [83, 15, 138, 251, 199, 69, 54, 185, 169, 99, 180, 241, 196, 203, 115, 139]) := run_of z16 (ctr z16 1) wz tn zero1 zero3 14 (Nat.le_refl _)
theorem blkN_congr {f g : Nat → B} : ∀ n, n ≤ 16 → Eq16 f g → blkN f n = blkN g n := by
  intro n
  induction n with
  | zero => intro _ _; rfl
  | succ n ih =>
    intro hn h
    show blkN f n ||| ((f n).setWidth 128 <<< (120 - 8 * n)) = blkN g n ||| ((g n).setWidth 128 <<< (120 - 8 * n))
    rw [ih (by omega) h, h n (by omega)]
theorem blkW_congr {f g : Nat → B} (h : Eq16 f g) : blkW f = blkW g := blkN_congr 16 (Nat.le_refl _) h
/-- H under the key of noughts. -/
def hz : W := blkW (tab [220, 149, 192, 120, 162, 64, 137, 137, 173, 72, 162, 20, 146, 132, 32, 135])
theorem zero_hz : blkW (encB (keyK z16) z16) = hz := blkW_congr zero_H
theorem gm_zero_left (y : W) : gm 0#128 y = 0#128 := by rw [gm_comm, gm_zero]
theorem ghash_nil (H : W) : ghash H [] [] = 0#128 := by
  show gm (0#128 ^^^ lenW 0 0) H = _
  have e : (0#128 ^^^ lenW 0 0 : W) = 0#128 := by decide
  rw [e, gm_zero_left]
theorem byteW_zero (q : Nat) : byteW 0#128 q = 0#8 := by unfold byteW; simp
/-- The known tag. -/
def tagZ : Nat → B := tagF (encB (keyK z16) (ctr z16 1)) (ghash (blkW (encB (keyK z16) z16)) [] [])
theorem tagZ_eq : Eq16 tagZ (tab [83, 15, 138, 251, 199, 69, 54, 185, 169, 99, 180, 241, 196, 203, 115, 139]) := fun i hi => by
  show encB _ _ i ^^^ byteW (ghash _ [] []) i = _
  rw [ghash_nil, byteW_zero, zero_E i hi]
  exact BitVec.xor_zero
theorem tagZ_0 : tagZ 0 = 0x53#8 := (tagZ_eq 0 (by decide)).trans (by decide +kernel)
theorem tagZ_15 : tagZ 15 = 0x8b#8 := (tagZ_eq 15 (by decide)).trans (by decide +kernel)
theorem other_hash : ∃ q, q < 16 ∧ byteW (ghash hz [1] []) q ≠ 0#8 := ⟨0, by decide, by decide +kernel⟩
/-- With another byte beside it the tag is another one. -/
theorem tagZ_other : eq16 (tagF (encB (keyK z16) (ctr z16 1)) (ghash (blkW (encB (keyK z16) z16)) [1] [])) tagZ = false := by
  rw [Bool.eq_false_iff]
  intro h
  rw [eq16_iff] at h
  obtain ⟨q, hq, hne⟩ := other_hash
  have h1 := h q hq
  have h2 : encB (keyK z16) (ctr z16 1) q ^^^ byteW (ghash (blkW (encB (keyK z16) z16)) [1] []) q = encB (keyK z16) (ctr z16 1) q ^^^ byteW (ghash (blkW (encB (keyK z16) z16)) [] []) q := h1
  rw [ghash_nil, byteW_zero, zero_hz, BitVec.xor_zero] at h2
  apply hne
  have h3 := congrArg (fun x => encB (keyK z16) (ctr z16 1) q ^^^ x) h2
  simp only [← BitVec.xor_assoc, BitVec.xor_self, BitVec.zero_xor] at h3
  exact h3
end Go.Proofs.Ytbebmbcjddibaaa.Gcm
/- What is said here: the contracts that gcm's laws use: a key opened, a text copied, compared, sealed, opened; a Sealing in memory. -/
namespace Go.Proofs.Ytbebmbcjddibaaa.Gcm
set_option linter.unusedVariables false
set_option linter.unusedSimpArgs false
open Go.RowKit Go.Proofs.YtbebmbcjddibaaaW.PrintWords Go.Proofs.YtbebmbcjddibaaaW.PrintLast Go.Proofs.YtbebmbcjddibaaaW.PrintMore Go.Proofs.Ytbebmbcjddibaaa.PG Gf Gfi Poly AesF Aes Lng
/-- What is told of a key: its cells K, and the blocks E. -/
structure Ciph (key K : Nat → B) (E : (Nat → B) → Nat → B) : Prop where
  block : ∀ (b : Nat → B) (w : World), Calls Try.prog 35 #[.agg (cB 752 K), .agg (cB 16 b)] w fun e w' => e = .returned (.agg (cB 16 (E b))) ∧ Below w.heap.size w w'
  exp : ∀ w : World, Calls Try.prog 22 #[.agg (cB 32 key)] w fun e w' => e = .returned (.agg (cB 752 K)) ∧ Below w.heap.size w w'
  rblock : ∀ (b : Nat → B) (w : World), Calls Try.prog 21 #[.agg (cB 752 K), .agg (cB 16 b)] w fun e w' => e = .returned (.agg (cB 16 (E b))) ∧ Below w.heap.size w w'
  rexp : ∀ w : World, Calls Try.prog 20 #[.agg (cB 32 key)] w fun e w' => e = .returned (.agg (cB 752 K)) ∧ Below w.heap.size w w'
  ec : ∀ {f g : Nat → B}, Eq16 f g → Eq16 (E f) (E g)
  inj : ∀ {f g : Nat → B}, Eq16 (E f) (E g) → Eq16 f g
theorem ciph (key : Nat → B) : Ciph key (keyK key) (encB (keyK key)) where
  block := fun b w => block_calls (keyK key) b w
  exp := expand_calls key
  rblock := fun b w => by
    have h := rblock_calls (keyK key) b w
    rw [rbl_eq _ _ _ (Nat.le_refl _)] at h
    exact h
  rexp := rexpand_calls key
  ec := fun h => bl_c h 14
  inj := fun {f g} h => ((back_block (keyK_ready key) f).symm.trans (add_c 0 (bk_c h 14))).trans (back_block (keyK_ready key) g)
theorem open_key (key : Nat → B) : ∃ K E, Ciph key K E := ⟨_, _, ciph key⟩
/-! ### Texts -/
theorem row_txt {w : World} {base : Nat} {v : Value} {l : List Int} (h : Row.Is w base v l) (hb : ∀ x ∈ l, 0 ≤ x ∧ x < 256) (hf : l.length < 1000000) : ∃ A c, v = .slice A l.length c ∧ Txt w A c l := by
  obtain ⟨A, c, rfl, hle, hC⟩ := h.reads
  exact ⟨A, c, rfl, hC, hle, hb, hf⟩
theorem copy_f (l : List Int) (h : l.length ≤ 1000000) : ciboriumref00_CopyBytes.f l = some l := by
  unfold ciboriumref00_CopyBytes.f
  rw [if_pos (by simp; omega)]
  rfl
theorem copy_t {w : World} {A : Option Addr} {c : Nat} {l : List Int} (h : Txt w A c l) : Calls Try.prog 17 #[.slice A l.length c] w fun e w' =>
    ∃ A' c', e = .returned (.slice A' l.length c') ∧ Txt w' A' c' l ∧ Row.Is w' w.heap.size (.slice A' l.length c') l ∧ Below w.heap.size w w' := by
  have hf := h.few
  refine (ciboriumref00_CopyBytes.calls A c l l w h.row h.le (copy_f l (by omega))).mono ?_
  rintro e w' ⟨v, rfl, hR, hb⟩
  have hI := Row.of_R hR
  obtain ⟨A', c', rfl, hT⟩ := row_txt hI h.by_ h.few
  exact ⟨A', c', rfl, hT, hI, hb⟩
theorem eq_t {w : World} {A1 A2 : Option Addr} {c1 c2 : Nat} {l1 l2 : List Int} (h1 : Txt w A1 c1 l1) (h2 : Txt w A2 c2 l2) (hd : l1 = l2) : Calls Try.prog 12 #[.slice A1 l1.length c1, .slice A2 l2.length c2] w fun e w' =>
    e = .returned (.bool true) ∧ Below w.heap.size w w' := by
  refine (ciboriumref00_EqBytes.calls A1 c1 l1 A2 c2 l2 true w h1.row h1.le h2.row h2.le (by subst hd; unfold ciboriumref00_EqBytes.f; simp)).mono ?_
  rintro e w' ⟨rfl, hb⟩
  exact ⟨rfl, hb.below⟩
theorem tag_len (E : (Nat → B) → Nat → B) (nonce : Nat → B) (ad text : List Int) : (tagL E nonce ad text).length = 16 := bytesL_len _
theorem tag_by (E : (Nat → B) → Nat → B) (nonce : Nat → B) (ad text : List Int) : ∀ x ∈ tagL E nonce ad text, 0 ≤ x ∧ x < 256 := fun x hx => by
  unfold tagL bytesL at hx
  obtain ⟨j, _, rfl⟩ := List.mem_map.1 hx
  exact ofB_range _
theorem seal_len (E : (Nat → B) → Nat → B) (nonce : Nat → B) (ad l : List Int) : (sealL E nonce ad l).length = l.length + 16 := by
  unfold sealL
  rw [List.length_append, body_len, tag_len]
theorem seal_by (E : (Nat → B) → Nat → B) (nonce : Nat → B) (ad l : List Int) : ∀ x ∈ sealL E nonce ad l, 0 ≤ x ∧ x < 256 := fun x hx => by
  unfold sealL at hx
  rcases List.mem_append.1 hx with h | h
  · exact body_by _ _ _ x h
  · exact tag_by _ _ _ _ x h
theorem seal_t {key nonce K : Nat → B} {E : (Nat → B) → Nat → B} (hC : Ciph key K E) {w : World} {A1 A2 : Option Addr} {c1 c2 : Nat} {l1 l2 : List Int} (h1 : Txt w A1 c1 l1) (h2 : Txt w A2 c2 l2) (hs1 : l1.length ≤ 65536) (hs2 : l2.length ≤ 65536) (s : List Int) (hs : s = sealL E nonce l1 l2) :
    Calls Try.prog 10 #[.agg (cB 32 key), .agg (cB 12 nonce), .slice A1 l1.length c1, .slice A2 l2.length c2] w fun e w' =>
      ∃ A' c', e = .returned (.slice A' s.length c') ∧ Txt w' A' c' s ∧ Row.Is w' w.heap.size (.slice A' s.length c') s ∧ Below w.heap.size w w' := by
  subst hs
  refine (seal_calls key nonce K E hC.block hC.exp A1 A2 c1 c2 l1 l2 w h1 h2 hs1 hs2).mono ?_
  rintro e w' ⟨v, rfl, hI, hb⟩
  obtain ⟨A', c', rfl, hT⟩ := row_txt hI (seal_by _ _ _ _) (by rw [seal_len]; omega)
  exact ⟨A', c', rfl, hT, hI, hb⟩
/-- What is opened of s: whether its tag is right; its bytes. -/
def tagOk (E : (Nat → B) → Nat → B) (nonce : Nat → B) (ad s : List Int) (n : Nat) : Bool := eq16 (tagF (E (ctr nonce 1)) (ghash (blkW (E z16)) ad (s.take n))) (chunk s n)
theorem open_t {key nonce K : Nat → B} {E : (Nat → B) → Nat → B} (hC : Ciph key K E) {w : World} {A1 A2 : Option Addr} {c1 c2 : Nat} {l1 l2 : List Int} (h1 : Txt w A1 c1 l1) (h2 : Txt w A2 c2 l2) (n : Nat) (hn : l2.length = n + 16) (hs1 : l1.length ≤ 65536) (hs2 : n ≤ 65536)
    (d : Bool) (hd : d = tagOk E nonce l1 l2 n) (p : List Int) (hp : p = if d = true then bodyL E nonce (l2.take n) else []) (code : Int) (hc : code = if d = true then 0 else 60) :
    Calls Try.prog 15 #[.agg (cB 32 key), .agg (cB 12 nonce), .slice A1 l1.length c1, .slice A2 l2.length c2] w fun e w' =>
      ∃ A' c', e = .returned (.tuple #[.slice A' p.length c', .int .i64 code]) ∧ Txt w' A' c' p ∧ Row.Is w' w.heap.size (.slice A' p.length c') p ∧ Below w.heap.size w w' := by
  refine (open_calls key nonce K E hC.block hC.exp A1 A2 c1 c2 l1 l2 w h1 h2 n hn hs1 hs2 d hd).mono ?_
  rintro e w' ⟨v, rfl, hI, hb⟩
  rw [← hp] at hI
  have hby : ∀ x ∈ p, 0 ≤ x ∧ x < 256 := fun x hx => by
    rw [hp] at hx
    split at hx
    · exact body_by _ _ _ x hx
    · exact absurd hx (by simp)
  have hlen : p.length < 1000000 := by
    rw [hp]
    split
    · rw [body_len, List.length_take]; omega
    · exact Nat.zero_lt_succ _
  obtain ⟨A', c', rfl, hT⟩ := row_txt hI hby hlen
  exact ⟨A', c', by rw [hc], hT, hI, hb⟩
/-! ### What is sealed, in plain words -/
theorem bits_back (a b : B) : (a ^^^ b) ^^^ b = a := by rw [BitVec.xor_assoc, BitVec.xor_self, BitVec.xor_zero]
theorem body_at (E : (Nat → B) → Nat → B) (nonce : Nat → B) (l : List Int) (j : Nat) (hj : j < l.length) : (bodyL E nonce l).getD j 0 = outB E nonce 1 l j := by
  unfold bodyL outL
  rw [List.getD_eq_getElem?_getD, List.getElem?_map, List.getElem?_range hj]; rfl
theorem body_body (E : (Nat → B) → Nat → B) (nonce : Nat → B) (l : List Int) (hl : ∀ x ∈ l, 0 ≤ x ∧ x < 256) : bodyL E nonce (bodyL E nonce l) = l := by
  apply List.ext_getElem
  · rw [body_len, body_len]
  · intro j h1 h2
    have hj : j < (bodyL E nonce l).length := by rw [body_len] at h1; exact h1
    have e1 := body_at E nonce (bodyL E nonce l) j hj
    have hm := List.getElem_mem h2
    have e2 : l.getD j 0 = l[j] := by rw [List.getD_eq_getElem?_getD, List.getElem?_eq_getElem h2]; rfl
    have e3 : (bodyL E nonce (bodyL E nonce l)).getD j 0 = (bodyL E nonce (bodyL E nonce l))[j] := by rw [List.getD_eq_getElem?_getD, List.getElem?_eq_getElem h1]; rfl
    rw [← e3, e1]
    unfold outB
    rw [body_at E nonce l j h2]
    unfold outB
    rw [toB_ofB, bits_back, e2]
    exact ofB_toB (hl _ hm).1 (hl _ hm).2
theorem take_seal (E : (Nat → B) → Nat → B) (nonce : Nat → B) (ad l : List Int) : (sealL E nonce ad l).take l.length = bodyL E nonce l := by
  unfold sealL
  rw [List.take_append_of_le_length (by rw [body_len]; exact Nat.le_refl _), List.take_of_length_le (by rw [body_len]; exact Nat.le_refl _)]
theorem chunk_seal (E : (Nat → B) → Nat → B) (nonce : Nat → B) (ad l : List Int) : Eq16 (chunk (sealL E nonce ad l) l.length) (tagF (E (ctr nonce 1)) (ghash (blkW (E z16)) ad (bodyL E nonce l))) := fun i hi => by
  unfold chunk sealL
  rw [List.getD_eq_getElem?_getD, List.getElem?_append_right (by rw [body_len]; omega), body_len, Nat.add_sub_cancel_left, ← List.getD_eq_getElem?_getD]
  unfold tagL
  rw [bytesL_at _ _ hi, toB_ofB]
/-- What is sealed is opened. -/
theorem ok_seal (E : (Nat → B) → Nat → B) (nonce : Nat → B) (ad l : List Int) : tagOk E nonce ad (sealL E nonce ad l) l.length = true := by
  unfold tagOk
  rw [eq16_iff, take_seal]
  exact (chunk_seal E nonce ad l).symm
/-! ### A Sealing -/
def seC (key nonce : Nat → B) (a b : Value) : Array Value := cB 32 key ++ cB 12 nonce ++ #[a, b]
theorem seC_size (key nonce : Nat → B) (a b : Value) : (seC key nonce a b).size = 46 := by simp [seC, cB_size]
theorem seC_key (key nonce : Nat → B) (a b : Value) (i : Nat) (hi : i < 32) : (seC key nonce a b)[i]? = some (.int .u8 (ofB (key i))) := by
  unfold seC
  rw [Array.append_assoc, Array.getElem?_append_left (by rw [cB_size]; exact hi), cB_get 32 _ _ hi]
theorem seC_nonce (key nonce : Nat → B) (a b : Value) (i : Nat) (hi : i < 12) : (seC key nonce a b)[32 + i]? = some (.int .u8 (ofB (nonce i))) := by
  unfold seC
  rw [Array.append_assoc, Array.getElem?_append_right (by rw [cB_size]; omega), cB_size, Nat.add_sub_cancel_left, Array.getElem?_append_left (by rw [cB_size]; exact hi), cB_get 12 _ _ hi]
theorem seC_a (key nonce : Nat → B) (a b : Value) : (seC key nonce a b)[44]? = some a := by
  unfold seC
  rw [Array.getElem?_append_right (by simp [cB_size])]
  simp [cB_size]
theorem seC_b (key nonce : Nat → B) (a b : Value) : (seC key nonce a b)[45]? = some b := by
  unfold seC
  rw [Array.getElem?_append_right (by simp [cB_size])]
  simp [cB_size]
theorem ld_mid {w : World} {g n : Nat} {cs : Array Value} {T : TypeId} (h : Blk.Is w g cs T) (o : Nat) (f : Nat → B) (ty : TypeId) (d : TypeDesc) (hc : ∀ i, i < n → cs[o + i]? = some (.int .u8 (ofB (f i))))
    (hd : (match d with | .struct _ | .array _ _ => true | _ => false) = true) (hu : Try.prog.underlying ty = some d) (hi : (Try.prog.info? ty).map (·.size) = some n) :
    (Blk.ld ty (.pointer (some ⟨g, o, none⟩))).run Try.prog w = .ok (.agg (cB n f)) w := by
  have e : cB n f = ((cB n f).toList).toArray := by simp
  rw [e]
  refine ld_any w ⟨g, o, none⟩ ty _ d ?_ hd hu (by rw [Array.length_toList, cB_size]; exact hi)
  intro j v hj
  rw [Array.getElem?_toList] at hj
  by_cases hjn : j < n
  · rw [cB_get n _ _ hjn] at hj
    injection hj with hj
    subst hj
    rw [Addr.add_mid, h.cell]
    exact hc j hjn
  · rw [Array.getElem?_eq_none (by rw [cB_size]; omega)] at hj
    exact absurd hj (by simp)
/-- A Sealing in a block of the call's own: the block alone. -/
structure Bx (base w : World) (key nonce : Nat → B) (a b : Value) : Prop where
  box : Blk.Is w base.heap.size (seC key nonce a b) 26
  below : Below base.heap.size base w
theorem Bx.start (base : World) (key nonce : Nat → B) (a b : Value) : Bx base (base.alloc (.cells (seC key nonce a b) 26)) key nonce a b := ⟨Blk.Is.new _ _ _, (Below.refl _ base).alloc (Nat.le_refl _) _⟩
theorem Bx.step {base w w' : World} {key nonce : Nat → B} {a b : Value} (h : Bx base w key nonce a b) (hb : Below w.heap.size w w') : Bx base w' key nonce a b := ⟨h.box.below hb h.box.lt, h.below.trans (hb.mono (Nat.le_of_lt h.box.lt))⟩
theorem Bx.la {base w : World} {key nonce : Nat → B} {a b : Value} (h : Bx base w key nonce a b) : w.cell? ⟨base.heap.size, 44, none⟩ = some a := by rw [h.box.cell]; exact seC_a _ _ _ _
theorem Bx.lb {base w : World} {key nonce : Nat → B} {a b : Value} (h : Bx base w key nonce a b) : w.cell? ⟨base.heap.size, 45, none⟩ = some b := by rw [h.box.cell]; exact seC_b _ _ _ _
/-- What is told of a text that a law has been handed. -/
structure Arg (w : World) (A : Option Addr) (c : Nat) (l : List Int) : Prop where
  row : Kd.C (Kd.int .u8) w A l.length l
  le : l.length ≤ c
  by_ : ∀ x ∈ l, 0 ≤ x ∧ x < 256
theorem Arg.txt {w : World} {A : Option Addr} {c : Nat} {l : List Int} (h : Arg w A c l) (hf : l.length < 1000000) : Txt w A c l := ⟨h.row, h.le, h.by_, hf⟩
/-- A Sealing that a law has been handed, in a block of the call's own; its two texts. -/
structure Se (base w : World) (key nonce : Nat → B) (A1 A2 : Option Addr) (c1 c2 : Nat) (l1 l2 : List Int) : Prop where
  box : Blk.Is w base.heap.size (seC key nonce (.slice A1 l1.length c1) (.slice A2 l2.length c2)) 26
  below : Below base.heap.size base w
  t1 : Txt w A1 c1 l1
  t2 : Txt w A2 c2 l2
variable {base w w' : World} {key nonce : Nat → B} {A1 A2 : Option Addr} {c1 c2 : Nat} {l1 l2 : List Int}
theorem Se.lt (h : Se base w key nonce A1 A2 c1 c2 l1 l2) : base.heap.size < w.heap.size := h.box.lt
theorem Se.step (h : Se base w key nonce A1 A2 c1 c2 l1 l2) (hb : Below w.heap.size w w') : Se base w' key nonce A1 A2 c1 c2 l1 l2 :=
  ⟨h.box.below hb h.box.lt, h.below.trans (hb.mono (Nat.le_of_lt h.box.lt)), h.t1.below hb, h.t2.below hb⟩
theorem Se.drew (h : Se base w key nonce A1 A2 c1 c2 l1 l2) : Se base w.drew key nonce A1 A2 c1 c2 l1 l2 :=
  ⟨h.box.drew, h.below.drew, ⟨Kd.C_below h.t1.row (Below.refl _ w).drew, h.t1.le, h.t1.by_, h.t1.few⟩, ⟨Kd.C_below h.t2.row (Below.refl _ w).drew, h.t2.le, h.t2.by_, h.t2.few⟩⟩
theorem Se.start (h1 : Txt base A1 c1 l1) (h2 : Txt base A2 c2 l2) : Se base (base.alloc (.cells (seC key nonce (.slice A1 l1.length c1) (.slice A2 l2.length c2)) 26)) key nonce A1 A2 c1 c2 l1 l2 := by
  have hb := (Below.refl _ base).alloc (Nat.le_refl _) (.cells (seC key nonce (.slice A1 l1.length c1) (.slice A2 l2.length c2)) 26)
  exact ⟨Blk.Is.new _ _ _, hb, h1.below hb, h2.below hb⟩
theorem Se.lk (h : Se base w key nonce A1 A2 c1 c2 l1 l2) : (Blk.ld 22 (.pointer (some ⟨base.heap.size, 0, none⟩))).run Try.prog w = .ok (.agg (cB 32 key)) w :=
  ld_mid h.box 0 key _ _ (fun i hi => by rw [Nat.zero_add]; exact seC_key _ _ _ _ i hi) rfl Try.underlying22 (by kernel_rfl)
theorem Se.ln (h : Se base w key nonce A1 A2 c1 c2 l1 l2) : (Blk.ld 23 (.pointer (some ⟨base.heap.size, 32, none⟩))).run Try.prog w = .ok (.agg (cB 12 nonce)) w :=
  ld_mid h.box 32 nonce _ _ (fun i hi => seC_nonce _ _ _ _ i hi) rfl Try.underlying23 (by kernel_rfl)
theorem Se.la (h : Se base w key nonce A1 A2 c1 c2 l1 l2) : w.cell? ⟨base.heap.size, 44, none⟩ = some (.slice A1 l1.length c1) := by rw [h.box.cell]; exact seC_a _ _ _ _
theorem Se.lb (h : Se base w key nonce A1 A2 c1 c2 l1 l2) : w.cell? ⟨base.heap.size, 45, none⟩ = some (.slice A2 l2.length c2) := by rw [h.box.cell]; exact seC_b _ _ _ _
end Go.Proofs.Ytbebmbcjddibaaa.Gcm
/- What is said here: the anchor works answers true. -/
namespace Go.Proofs.Ytbebmbcjddibaaa.Gcm
set_option linter.unusedVariables false
set_option linter.unusedSimpArgs false
open Go.RowKit Go.Proofs.YtbebmbcjddibaaaW.PrintWords Go.Proofs.YtbebmbcjddibaaaW.PrintLast Go.Proofs.YtbebmbcjddibaaaW.PrintMore Go.Proofs.Ytbebmbcjddibaaa.PG Gf Gfi Poly AesF Aes Lng
theorem bd22 (ps : Array (Nat × Value)) : Instr.build 22 ps = bd 22 ps := rfl
theorem bd12 (ps : Array (Nat × Value)) : Instr.build 23 ps = bd 23 ps := rfl
theorem bd_zero22 (W : World) : (bd 22 #[]).run Try.prog W = .ok (.agg (cB 32 z16)) W := by kernel_rfl
theorem bd_zero12 (W : World) : (bd 23 #[]).run Try.prog W = .ok (.agg (cB 12 z16)) W := by kernel_rfl
attribute [local go_sem ↓] bd22 bd12
theorem txt_nil (w : World) : Txt w none 0 [] := ⟨(Row.Is.nil w 0).reads'.2.2, Nat.le_refl _, fun x hx => absurd hx (by simp), Nat.zero_lt_succ _⟩
theorem seal_nil (E : (Nat → B) → Nat → B) (nonce : Nat → B) (ad : List Int) : sealL E nonce ad [] = tagL E nonce ad [] := rfl
/-- Nothing under the key of noughts is sealed as the known tag. -/
def zS : List Int := sealL (encB (keyK z16)) z16 [] []
theorem zS_len : zS.length = 16 := by unfold zS; rw [seal_len]; rfl
theorem zS_at (i : Nat) (hi : i < 16) : zS.getD i 0 = ofB (tagZ i) := bytesL_at tagZ i hi
theorem zS_0 : zS.getD 0 0 = 83 := by rw [zS_at 0 (by decide), tagZ_0]; rfl
theorem zS_15 : zS.getD 15 0 = 139 := by rw [zS_at 15 (by decide), tagZ_15]; rfl
theorem zS_ok : tagOk (encB (keyK z16)) z16 [] zS 0 = true := ok_seal (encB (keyK z16)) z16 [] []
theorem zS_no : tagOk (encB (keyK z16)) z16 [1] zS 0 = false := by
  have h : Eq16 (chunk zS 0) tagZ := fun i hi => by
    unfold chunk
    rw [Nat.zero_add, zS_at i hi, toB_ofB]
  have h2 := tagZ_other
  rw [Bool.eq_false_iff] at h2 ⊢
  intro h3
  apply h2
  unfold tagOk at h3
  rw [eq16_iff] at h3 ⊢
  exact h3.trans h
theorem txt_one {w : World} {b : Nat} {T : TypeId} (h : Blk.Is w b #[.int .u8 1] T) : Txt w (some ⟨b, 0, none⟩) 1 [1] := by
  refine ⟨?_, Nat.le_refl _, fun x hx => by simp at hx; omega, by decide⟩
  refine Kd.C_of_reads (d := (0 : Int)) (h1 := fun _ => rfl) ⟨rfl, by decide, fun _ => ⟨⟨b, 0, none⟩, rfl, fun j hj => ?_⟩⟩
  have hj1 : j < 1 := hj
  obtain rfl : j = 0 := by omega
  have e : (⟨b, 0, none⟩ : Addr).add 0 = ⟨b, 0, none⟩ := by rw [Addr.add_mid]
  rw [e, h.cell]
  rfl
set_option maxRecDepth 100000 in
set_option maxHeartbeats 2000000 in
theorem works (w : World) : Calls Try.prog 8 #[] w fun e w' => e = .returned (.bool true) ∧ Below w.heap.size w w' := by
  have hb32 := bd_zero22
  have hb12 := bd_zero12
  have HC := Lib.hid (ciph z16)
  have HOK := Lib.hid zS_ok
  have HNO := Lib.hid zS_no
  have HL := Lib.hid zS_len
  have HS := Lib.hid (show zS = sealL (encB (keyK z16)) z16 [] [] from rfl)
  have H0 := Lib.hid zS_0
  have H15 := Lib.hid zS_15
  generalize keyK z16 = kc at *
  generalize encB kc = E at *
  generalize zS = s at *
  go_enter Try.func8, Try.ntmps8
  go_wp2_with fail
  refine (seal_t (l1 := []) (l2 := []) HC.out (txt_nil w) (txt_nil w) (Nat.zero_le _) (Nat.zero_le _) s HS.out).mono ?_
  rintro e w1 ⟨A, c, rfl, hT, hR, hb⟩
  obtain ⟨gs, rfl, hgs⟩ := hR.head (by rw [HL.out]; decide)
  have h0 := (hR.cell 0 (by rw [HL.out]; decide)).1
  have h15 := (hR.cell 15 (by rw [HL.out]; decide)).1
  rw [H0.out] at h0
  rw [H15.out] at h15
  have HT1 := Lib.hid hT
  have HB1 := Lib.hid hb
  rw [HL.out]
  have hle : 16 ≤ c := by have h := hT.le; rwa [HL.out] at h
  clear hT hR hb hgs
  go_wp2_with fail
  clear h0 h15
  have ho := open_t (nonce := z16) HC.out (txt_nil w1) HT1.out 0 HL.out (Nat.zero_le _) (Nat.zero_le _) true HOK.out.symm [] rfl 0 rfl
  rw [HL.out] at ho
  refine ho.mono ?_
  rintro e w2 ⟨A2, c2, rfl, _, _, hb⟩
  have HT2 := Lib.hid (HT1.out.below hb)
  have HB2 := Lib.hid (HB1.out.trans (hb.mono HB1.out.size))
  clear ho hb HT1 HB1
  have HX := Lib.hid (Blk.Is.new w2 #[.int .u8 1] 5)
  have HT3 := Lib.hid (HT2.out.below ((Below.refl _ w2).alloc (Nat.le_refl _) (.cells #[.int .u8 1] 5)))
  have HB3 := Lib.hid (HB2.out.alloc HB2.out.size (.cells #[.int .u8 1] 5))
  go_wp2_with fail
  generalize w2.alloc (.cells #[.int .u8 1] 5) = w3 at *
  have ho := open_t (nonce := z16) HC.out (txt_one HX.out) HT3.out 0 HL.out (by decide) (Nat.zero_le _) false HNO.out.symm [] rfl 60 rfl
  rw [HL.out] at ho
  refine ho.mono ?_
  rintro e w4 ⟨A4, c4, rfl, _, _, hb⟩
  have HB4 := Lib.hid (HB3.out.trans (hb.mono HB3.out.size))
  clear ho hb HT3 HB3
  go_wp2_with fail
  go_ret
  exact ⟨rfl, HB4.out⟩
end Go.Proofs.Ytbebmbcjddibaaa.Gcm
