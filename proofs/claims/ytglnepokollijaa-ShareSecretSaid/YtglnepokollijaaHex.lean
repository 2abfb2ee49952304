/- What is said here: octet.Hex tells bytes in digits. -/
import Derived.Test.YtglnepokollijaaRow
import Derived.Test.YtglnepokollijaaBlk
import Derived.WalkSpells
import Derived.StillTailTactics
import Derived.BigQuiet
import Derived.Deep.QuietTactic
namespace Go.Proofs.Ytglnepokollijaa.Row
set_option linter.unusedVariables false
set_option linter.unusedSimpArgs false
open Go.RowKit Go.Proofs.YtglnepokollijaaW.PrintWords Go.Proofs.YtglnepokollijaaW.PrintLast Go.Proofs.YtglnepokollijaaW.PrintMore

theorem cellIn {W : World} {A : Option Addr} {l : List Int} (h : Kd.C (Kd.int .u8) W A l.length l) (k : Nat) (hk : k < l.length) : ∃ ad, A = some ad ∧ W.cell? (ad.add k) = some (.int .u8 l[k]) := by
  obtain ⟨ad, e, hc⟩ := h.2.2 (by omega)
  refine ⟨ad, e, ?_⟩
  obtain ⟨c, h1, h2, h3⟩ := hc k _ (List.getElem?_eq_getElem hk)
  have hcs : c = [Value.int .u8 l[k]] := h2
  subst hcs
  have h4 : W.cell? (ad.add (k * 1 + 0)) = some (Value.int .u8 l[k]) := h3 0 _ rfl
  rwa [Nat.mul_one, Nat.add_zero] at h4
/-- Bytes that are written down. -/
theorem lit (W : World) (l : List Int) (T : TypeId) (hl : l.length ≤ 9223372036854775807) : Kd.C (Kd.int .u8) (W.alloc (.cells (l.map (Value.int .u8)).toArray T)) (some ⟨W.heap.size, 0, none⟩) l.length l := by
  refine ⟨rfl, hl, fun _ => ⟨_, rfl, fun j x hj => ?_⟩⟩
  refine ⟨[Value.int .u8 x], rfl, rfl, fun i v hi => ?_⟩
  have h := Blk.Is.cell (Blk.Is.new W (l.map (Value.int .u8)).toArray T) j
  match i, hi with
  | 0, hi =>
    injection hi with hi
    subst hi
    have e : (l.map (Value.int .u8)).toArray[j]? = some (Value.int .u8 x) := by simp [hj]
    rw [e] at h
    have e2 : (⟨W.heap.size, 0, none⟩ : Addr).add (j * 1 + 0) = ⟨W.heap.size, j, none⟩ := by rw [add_plain]; simp
    show World.cell? _ ((⟨W.heap.size, 0, none⟩ : Addr).add (j * 1 + 0)) = _
    rw [e2]
    exact h
  | i + 1, hi => simp at hi

section
variable {W : World} {ops : Array Oper} {Q : Exit → Act → World → Prop} {a : Act} {rest : List Oper} {o : Oper}
/-- A row with room is made. -/
theorem makeCap (x y : Operand) (n : Nat) (hgd : o.guard = none) (ho : o.op = .makeSlice 22 x y) (hx : a.eval x = .int .i64 0) (hy : a.eval y = .int .i64 (n : Int)) (hn : n ≤ 140737488351232)
    (h : ∀ w1, Is w1 W.heap.size (.slice (some ⟨W.heap.size, 0, none⟩) 0 n) [] → W.grownBy w1 none → wpList Try.prog ops Q rest (a.put o.dst (.slice (some ⟨W.heap.size, 0, none⟩) 0 n)) w1) :
    wpList Try.prog ops Q (o :: rest) a W := by
  obtain ⟨i0, hi0, hz0, hsz0, hb0⟩ := info_parts infoB
  exact wpList_make_own W hgd x y 22 ho W.heap.size 5 i0 (.int .u8 0) 1 Try.underlying22 hi0 hz0 hsz0 .i64 .i64 (n : Int) n hx hy rfl (by rw [hb0]; omega) (by unfold maxLen; omega) (Nat.le_refl _) (fun w1 h1 h2 => h w1 h1 h2)
end
end Go.Proofs.Ytglnepokollijaa.Row
namespace Go.Proofs.Ytglnepokollijaa.Hex
set_option linter.unusedVariables false
set_option linter.unusedSimpArgs false
open Go.RowKit Go.Proofs.YtglnepokollijaaW.PrintWords Go.Proofs.YtglnepokollijaaW.PrintLast Go.Proofs.YtglnepokollijaaW.PrintMore

/-- A half byte's digit. -/
def dig (n : Int) : Int := [48, 49, 50, 51, 52, 53, 54, 55, 56, 57, 97, 98, 99, 100, 101, 102].getD n.toNat 0
/-- Bytes, told in digits. -/
def hexL (l : List Int) : List Int := l.flatMap (fun x => [dig (x / 16), dig (x % 16)])
theorem hexL_snoc (l : List Int) (x : Int) : hexL (l ++ [x]) = hexL l ++ [dig (x / 16), dig (x % 16)] := by simp [hexL]
theorem hexL_length (l : List Int) : (hexL l).length = 2 * l.length := by
  induction l with
  | nil => rfl
  | cons x l ih => simp only [hexL, List.flatMap_cons, List.length_append, List.length_cons, List.length_nil] at ih ⊢; omega

theorem and15 (x : Int) (h0 : 0 ≤ x) (h1 : x < 256) : Go.bits .and .u8 x 15 = x % 16 := by
  have h : ∀ n : Fin 256, Go.bits .and .u8 ((n.val : Nat) : Int) 15 = ((n.val : Nat) : Int) % 16 := by decide +kernel
  have := h ⟨x.toNat, by omega⟩
  rwa [Int.toNat_of_nonneg h0] at this
theorem digAt (n : Int) (h : n.toNat < (ByteArray.mk #[48, 49, 50, 51, 52, 53, 54, 55, 56, 57, 97, 98, 99, 100, 101, 102]).size) : (((ByteArray.mk #[48, 49, 50, 51, 52, 53, 54, 55, 56, 57, 97, 98, 99, 100, 101, 102])[n.toNat]'h).toNat : Int) = dig n := by
  have h2 : ∀ m : Fin 16, (((ByteArray.mk #[48, 49, 50, 51, 52, 53, 54, 55, 56, 57, 97, 98, 99, 100, 101, 102])[m.val]'(m.isLt)).toNat : Int) = [48, 49, 50, 51, 52, 53, 54, 55, 56, 57, 97, 98, 99, 100, 101, 102].getD m.val 0 := by decide +kernel
  exact h2 ⟨n.toNat, h⟩

set_option maxHeartbeats 1000000 in
theorem hex (A0 : Option Addr) (c0 : Nat) (b : List Int) (w : World) (hr : Kd.C (Kd.int .u8) w A0 b.length b) (hl : b.length ≤ 10000000000000) (hw : ∀ x ∈ b, 0 ≤ x ∧ x < 256) :
    Calls Try.prog 41 #[.slice A0 b.length c0] w fun e w' => e = .returned (.string (strOfNums (hexL b))) ∧ Below w.heap.size w w' := by
  have HR := Lib.hid hr
  clear hr
  have hmk : IntKind.i64.wrap (2 * (b.length : Int)) = ((2 * b.length : Nat) : Int) := IntWalk.i64_in _ (by omega)
  go_enter Try.func41, Try.ntmps41
  go_wp2_with (refine Row.makeCap _ _ (2 * b.length) rfl rfl rfl rfl (by omega) ?_; intro w1 h1 hg1)
  have hB2 : Below w.heap.size w w1 := (Below.refl w.heap.size w).grown hg1 (Nat.le_refl _) (fun k e => by cases e)
  have H1 := Lib.hid h1
  have HB := Lib.hid hB2
  clear h1 hg1 hB2 hmk
  go_loopw [3, 12] (fun v3 v12 wr => ∃ k : Nat, k ≤ b.length ∧ v12 = .int .i64 (k : Int) ∧ Hid (Row.Is wr w.heap.size v3 (hexL (b.take k))) ∧ Hid (Below w.heap.size w wr)) (fun _ v12 _ => b.length - (intOf v12).toNat)
  case atStart => exact ⟨0, by omega, rfl, (show Row.Is _ _ _ _ by simpa [hexL] using H1.out), HB⟩
  case round =>
    obtain ⟨k, hk, rfl, HR1, HB1⟩ := hrel
    by_cases hlt : k < b.length
    · obtain ⟨ad, e0, hcell⟩ := Row.cellIn HR.out k hlt
      have hcell' := (HB1.out.cell (World.block_lt_of_cell? w _ hcell)).trans hcell
      cases e0
      have hx := hw _ (List.getElem_mem hlt)
      have hq0 : 0 ≤ b[k] / 16 := by omega
      have hq1 : b[k] / 16 < 16 := by omega
      have ha := and15 b[k] hx.1 hx.2
      have hr0 : 0 ≤ b[k] % 16 := by omega
      have hr1 : b[k] % 16 < 16 := by omega
      have hsn : Hid (hexL (b.take (k + 1)) = hexL (b.take k) ++ [dig (b[k] / 16), dig (b[k] % 16)]) := by show _ = _; rw [List.take_succ_eq_append_getElem hlt, hexL_snoc]
      have hlen : (hexL (b.take k)).length ≤ 20000000000000 := by rw [hexL_length, List.length_take]; omega
      go_wp2
      have HR2 : Hid (Row.Is wr.drew w.heap.size u3 (hexL (b.take k))) := HR1
      have HB2 : Hid (Below w.heap.size w wr.drew) := pw_below_drewN (n := 1) HB1.out
      refine start_ (n := 10) (S := fun w' => True) (ds := []) #[false, false, false, false, false, false, false, false, false, false] (by kernel_rfl) rfl rfl trivial (fun hHeld => ?_)
      generalize wr.drew = w2 at *
      refine pure_ (i := 0) (N := some 16) (v := ?_) (a' := ?_) #[true, false, false, false, false, false, false, false, false, false] rfl rfl (by kernel_rfl) (fun _ _ _ h => h) (Or.inl ⟨by rfl, ?_⟩) ?_ ?_
      rotate_left
      · intro w'
        go_simp
        with_reducible rfl
      rotate_left
      · simp only [Act.put, List.setIfInBounds_toArray, List.set_cons_zero, List.set_cons_succ, i64_w, i32_w]
        rfl
      refine pure_ (i := 1) (N := some 17) (v := ?_) (a' := ?_) #[true, true, false, false, false, false, false, false, false, false] rfl rfl (by kernel_rfl) (fun _ _ _ h => h) (Or.inl ⟨by rfl, ?_⟩) ?_ ?_
      rotate_left
      · intro w'
        go_simp
        with_reducible rfl
      rotate_left
      · simp only [Act.put, List.setIfInBounds_toArray, List.set_cons_zero, List.set_cons_succ, i64_w, i32_w]
        rfl
      refine pure_ (i := 2) (N := some 18) (v := ?_) (a' := ?_) #[true, true, true, false, false, false, false, false, false, false] rfl rfl (by kernel_rfl) (fun _ _ _ h => h) (Or.inl ⟨by rfl, ?_⟩) ?_ ?_
      rotate_left
      · intro w'
        go_simp
        with_reducible rfl
      rotate_left
      · simp only [Act.put, List.setIfInBounds_toArray, List.set_cons_zero, List.set_cons_succ, i64_w, i32_w]
        rfl
      refine pure_ (i := 4) (N := some 20) (v := ?_) (a' := ?_) #[true, true, true, false, true, false, false, false, false, false] rfl rfl (by kernel_rfl) (fun _ _ _ h => h) (Or.inl ⟨by rfl, ?_⟩) ?_ ?_
      rotate_left
      · intro w'
        go_simp
        with_reducible rfl
      rotate_left
      · simp only [Act.put, List.setIfInBounds_toArray, List.set_cons_zero, List.set_cons_succ, i64_w, i32_w]
        rfl
      refine pure_ (i := 5) (N := some 21) (v := ?_) (a' := ?_) #[true, true, true, false, true, true, false, false, false, false] rfl rfl (by kernel_rfl) (fun _ _ _ h => h) (Or.inl ⟨by rfl, ?_⟩) ?_ ?_
      rotate_left
      · intro w'
        go_simp
        with_reducible rfl
      rotate_left
      · simp only [Act.put, List.setIfInBounds_toArray, List.set_cons_zero, List.set_cons_succ, i64_w, i32_w]
        rfl
      refine take_ (i := 3) (N := some 19) (v := ?_) (a' := ?_) #[true, true, true, true, true, true, false, false, false, false] rfl rfl (by kernel_rfl) (fun _ _ _ h => h) (Or.inl ⟨by rfl, ?_⟩) hHeld ?_ ?_
      rotate_left
      · intro w' _
        go_simp
        with_reducible rfl
      rotate_left
      · simp only [Act.put, List.setIfInBounds_toArray, List.set_cons_zero, List.set_cons_succ, i64_w, i32_w]
        rfl
      refine take_ (i := 6) (N := some 22) (v := ?_) (a' := ?_) #[true, true, true, true, true, true, true, false, false, false] rfl rfl (by kernel_rfl) (fun _ _ _ h => h) (Or.inl ⟨by rfl, ?_⟩) hHeld ?_ ?_
      rotate_left
      · intro w' _
        go_simp
        with_reducible rfl
      rotate_left
      · simp only [Act.put, List.setIfInBounds_toArray, List.set_cons_zero, List.set_cons_succ, i64_w, i32_w]
        rfl
      refine one_ (i := 7) (N := some 23) #[true, true, true, true, true, true, true, true, false, false] rfl rfl (by kernel_rfl) (by decide) (fun K hK => ?_)
      rw [digAt (b[k] / 16), digAt (b[k] % 16)]
      refine value_ (w1 := ?_) (v := ?_) (by rfl) rfl ?_ ?_
      rotate_left 2
      · go_simp
        constructor
        · rfl
        · rfl
      refine hK.out _ _ trivial (fun hHeld => ?_)
      clear hK K
      refine norm_ (a' := ?_) ?_ ?_
      rotate_left
      · show Act.put _ (some 23) _ = _
        simp only [Act.put, List.setIfInBounds_toArray, List.set_cons_zero, List.set_cons_succ, i64_w, i32_w]
        rfl
      refine one_ (i := 8) (N := some 24) #[true, true, true, true, true, true, true, true, true, false] rfl rfl (by kernel_rfl) (by decide) (fun K hK => ?_)
      refine Row.appendStep w.heap.size _ _ u3 (hexL (b.take k)) _ 2 2 [dig (b[k] / 16), dig (b[k] % 16)] rfl rfl rfl rfl rfl (HR2.out.alloc _) (Row.lit w2 [dig (b[k] / 16), dig (b[k] % 16)] 5 (by simp)) (Nat.le_trans HB2.out.size (by simp)) (Nat.le_trans (Nat.add_le_add_right hlen _) (by simp)) ?_
      intro v1 w3 h1 h2 h3 h4
      refine hK.out _ _ trivial (fun hHeld => ?_)
      clear hK K
      refine norm_ (a' := ?_) ?_ ?_
      rotate_left
      · show Act.put _ (some 24) _ = _
        simp only [Act.put, List.setIfInBounds_toArray, List.set_cons_zero, List.set_cons_succ, i64_w, i32_w]
        rfl
      refine pure_ (i := 9) (N := some 3) (v := ?_) (a' := ?_) #[true, true, true, true, true, true, true, true, true, true] rfl rfl (by kernel_rfl) (fun _ _ _ h => h) (Or.inl ⟨by rfl, ?_⟩) ?_ ?_
      rotate_left
      · intro w'
        go_simp
        with_reducible rfl
      rotate_left
      · simp only [Act.put, List.setIfInBounds_toArray, List.set_cons_zero, List.set_cons_succ, i64_w, i32_w]
        rfl
      refine done_ (by kernel_rfl) ?_

      go_wp2
      go_roundw
      case rel => exact ⟨k + 1, by omega, by go_num, (show Row.Is _ _ _ _ by rw [hsn.out]; exact h1), (HB2.out.alloc HB2.out.size _).trans h2⟩
      case measure => simp [intOf]; omega
    · obtain rfl : k = b.length := by omega
      have hrr : Row.Is wr w.heap.size u3 (hexL b) := by have := HR1.out; rwa [List.take_length] at this
      obtain ⟨A, c, rfl, _, hC⟩ := hrr.reads
      have hcv := Kd.C_string (P := Try.prog) (A := A) (c := c) Try.underlying22 Try.underlying5 Try.underlying9 hC
      go_wp2
      go_ret
      exact ⟨rfl, HB1.out⟩
end Go.Proofs.Ytglnepokollijaa.Hex
