/- What is said here: bytes stored or copied into the middle of a block of bytes; the rows of a table of rows. -/
import Derived.Test.YtfbhbkcjnbpnlaaAes6
namespace Go.Proofs.Ytfbhbkcjnbpnlaa.Aes
set_option linter.unusedVariables false
set_option linter.unusedSimpArgs false
open Go.RowKit Go.Proofs.YtfbhbkcjnbpnlaaW.PrintWords Go.Proofs.YtfbhbkcjnbpnlaaW.PrintLast Go.Proofs.YtfbhbkcjnbpnlaaW.PrintMore
open Gf Gfi Poly AesF
/-- n bytes of g laid over f from o on. -/
def blend (f : Nat → B) (o n : Nat) (g : Nat → B) : Nat → B := fun q => if o ≤ q ∧ q < o + n then g (q - o) else f q
theorem cells_is {T : TypeId} {b N : Nat} (n : Nat) : ∀ (W : World) (f : Nat → B) (o : Nat) (g : Nat → B), Blk.Is W b (cB N f) T →
    Blk.Is (W.setCells b o ((List.range n).map fun q => Value.int .u8 (ofB (g q)))) b (cB N (blend f o n g)) T ∧ Keeps b W (W.setCells b o ((List.range n).map fun q => Value.int .u8 (ofB (g q)))) := by
  induction n with
  | zero =>
    intro W f o g h
    refine ⟨?_, Keeps.refl _ _⟩
    have e : cB N (blend f o 0 g) = cB N f := cB_congr (fun q _ => by unfold blend; rw [if_neg (by omega)])
    rw [e]
    exact h
  | succ n ih =>
    intro W f o g h
    rw [List.range_succ_eq_map, List.map_cons, List.map_map]
    have h1 := h.set o (.int .u8 (ofB (g 0)))
    rw [cB_set] at h1
    obtain ⟨h2, h3⟩ := ih (W.setCell ⟨b, o, none⟩ (.int .u8 (ofB (g 0)))) (updB f o (g 0)) (o + 1) (fun q => g (q + 1)) h1
    have e : cB N (blend (updB f o (g 0)) (o + 1) n (fun q => g (q + 1))) = cB N (blend f o (n + 1) g) := cB_congr (fun q _ => by
      unfold blend updB
      by_cases e1 : q = o
      · subst e1
        rw [if_neg (by omega), if_pos rfl, if_pos (by omega), Nat.sub_self]
      · by_cases e2 : o + 1 ≤ q ∧ q < o + 1 + n
        · rw [if_pos e2, if_pos (by omega)]
          show g (q - (o + 1) + 1) = g (q - o)
          rw [show q - (o + 1) + 1 = q - o by omega]
        · rw [if_neg e2, if_neg e1, if_neg (by omega)])
    rw [e] at h2
    exact ⟨h2, ((Keeps.refl b W).setCell rfl _).trans h3⟩
theorem cB_list (n : Nat) (g : Nat → B) : (cB n g).toList = (List.range n).map fun q => Value.int .u8 (ofB (g q)) := rfl
/-- A store of n bytes. -/
theorem st_mid {W : World} {b N : Nat} {f : Nat → B} {T : TypeId} (h : Blk.Is W b (cB N f) T) (t : TypeId) (o n : Nat) (hn : o + n ≤ N) (g : Nat → B) (hi : (Try.prog.info? t).map (·.size) = some n) :
    ∃ W', (Blk.st t (.pointer (some ⟨b, o, none⟩)) (.agg (cB n g))).run Try.prog W = .ok () W' ∧ Blk.Is W' b (cB N (blend f o n g)) T ∧ Keeps b W W' := by
  refine ⟨_, run_storeAt_mid W b o t (cB n g) (fun j hj => ?_) (by rw [hi, cB_size]) (cB_one n g), cells_is n W f o g h⟩
  rw [cB_size] at hj
  refine ⟨?_, h.free _⟩
  rw [h.cell, cB_get N f (o + j) (by omega)]
  rfl
/-- A copy of n bytes. -/
theorem cp_mid {W : World} {b N : Nat} {f : Nat → B} {T : TypeId} (h : Blk.Is W b (cB N f) T) (o n dLen dCap : Nat) (hn : o + n ≤ N) (hl : n ≤ dLen) {c : Nat} {M : Nat} {g : Nat → B} {T' : TypeId} (hs : Blk.Is W c (cB M g) T') (hM : n ≤ M) (cap : Nat)
    (dT sT ty elem : TypeId) (hu : Try.prog.underlying dT = some (.slice elem)) (hi : (Try.prog.info? elem).map (·.size) = some 1) :
    ∃ W', (Builtin.copy_ #[dT, sT] ty #[.slice (some ⟨b, o, none⟩) dLen dCap, .slice (some ⟨c, 0, none⟩) n cap]).run Try.prog W = .ok (goInt n) W' ∧ Blk.Is W' b (cB N (blend f o n g)) T ∧ Keeps b W W' := by
  have hr := run_copy_cells (P := Try.prog) W dT sT ty elem b o dLen dCap ⟨c, 0, none⟩ n cap ((List.range n).map fun q => Value.int .u8 (ofB (g q))) hu hi (by simp [Nat.min_eq_left hl])
    (fun j v hj => by
      have hjl : j < n := by have := (List.getElem?_eq_some_iff.1 hj).1; rwa [List.length_map, List.length_range] at this
      rw [List.getElem?_map, List.getElem?_range hjl] at hj
      rw [Addr.add_mid, Nat.zero_add, hs.cell, cB_get M g j (by omega)]
      exact hj)
    (fun j hj => by
      rw [List.length_map, List.length_range] at hj
      rw [h.cell, cB_get N f (o + j) (by omega)]
      rfl)
    (fun j hj => h.free _)
    (fun v hv => by obtain ⟨q, _, rfl⟩ := List.mem_map.1 hv; rfl)
  rw [List.length_map, List.length_range] at hr
  exact ⟨_, hr, cells_is n W f o g h⟩
theorem zeroKey (w : World) : (zeroValue 27).run Try.prog w = .ok (.agg (cB 752 (fun _ => 0#8))) w := by kernel_rfl
theorem zeroRows (w : World) : (zeroValue 41).run Try.prog w = .ok (.agg (cB 240 (fun _ => 0#8))) w := by kernel_rfl
theorem cut32 (s c : Nat) (h : c ≤ 28) (W : World) : (Instr.sliceAt 22 (.pointer (some ⟨s, 0, none⟩)) (some (.int .i64 (c : Int))) (some (.int .i64 ((c : Int) + 4))) none).run Try.prog W = .ok (.slice (some ⟨s, c, none⟩) 4 (32 - c)) W := by
  have hl : Try.prog.arrayLen 22 = 32 := by kernel_rfl
  have hs : (sizeOf (Try.prog.elem 22)).run Try.prog W = .ok 1 W := by kernel_rfl
  rw [run_sliceAt_array_lh W 22 ⟨s, 0, none⟩ (by kernel_rfl) .i64 .i64 (c : Int) ((c : Int) + 4) (by omega) (by omega) (by rw [hl]; omega), hs, hl]
  have e1 : ((c : Int) + 4).toNat = c + 4 := by omega
  simp only [Result.andThen, slicedAt, e1, Int.toNat_natCast]
  rw [if_neg (by omega), Nat.mul_one, Nat.add_sub_cancel_left, Addr.add_mid, Nat.zero_add]
theorem cut16 (s o c : Nat) (h : c ≤ 12) (W : World) : (Instr.sliceAt 23 (.pointer (some ⟨s, o, none⟩)) (some (.int .i64 (c : Int))) none none).run Try.prog W = .ok (.slice (some ⟨s, o + c, none⟩) (16 - c) (16 - c)) W := by
  have hl : Try.prog.arrayLen 23 = 16 := by kernel_rfl
  have hs : (sizeOf (Try.prog.elem 23)).run Try.prog W = .ok 1 W := by kernel_rfl
  rw [run_sliceAt_array_l W 23 ⟨s, o, none⟩ (by kernel_rfl) .i64 (c : Int) (by omega) (by rw [hl]; omega), hs, hl]
  simp only [Result.andThen, slicedAt, Int.toNat_natCast]
  rw [if_neg (by omega), Nat.mul_one, Addr.add_mid]
theorem part4 (f : Nat → B) (i : Nat) (h : i < 60) : (cB 240 f).extract (i * 4) (i * 4 + 4) = cB 4 (fun q => f (4 * i + q)) := by
  apply Array.ext_getElem?
  intro j
  by_cases hj : j < 4
  · rw [Array.getElem?_extract, cB_get 4 _ j hj, if_pos (by rw [cB_size]; omega), cB_get 240 f (i * 4 + j) (by omega), Nat.mul_comm]
  · rw [Array.getElem?_eq_none (by rw [Array.size_extract, cB_size]; omega), Array.getElem?_eq_none (by rw [cB_size]; omega)]
theorem idx41 (f : Nat → B) (i : Nat) (h : i < 60) (W : World) : (Instr.index 41 (.agg (cB 240 f)) (.int .i64 (i : Int))).run Try.prog W = .ok (.agg (cB 4 (fun q => f (4 * i + q)))) W := by
  have h1 : (0 : Int) ≤ (i : Int) ∧ (i : Int) < (60 : Int) := by omega
  have hs : (sizeOf 40).run Try.prog W = .ok 4 W := by kernel_rfl
  have ha : (isAgg 40).run Try.prog W = .ok true W := by kernel_rfl
  have hp := part4 f i h
  simp [Instr.index, asIntOf, run_underlying Try.underlying41, h, Sem.run_bind, hs, part, ha, hp, Result.andThen]
end Go.Proofs.Ytfbhbkcjnbpnlaa.Aes
