/- What is said here: octet.Digits tells a number to the base 10. -/
import Derived.Test.YtengdchgfhcdhaaHex
namespace Go.Proofs.Ytengdchgfhcdhaa.Digits
set_option linter.unusedVariables false
set_option linter.unusedSimpArgs false
open Go.RowKit Go.Proofs.YtengdchgfhcdhaaW.PrintWords Go.Proofs.YtengdchgfhcdhaaW.PrintLast Go.Proofs.YtengdchgfhcdhaaW.PrintMore

/-- The last j digits of a number. -/
def dl (n : Int) : Nat → List Int
  | 0 => []
  | j + 1 => (48 + n / 10 ^ j % 10) :: dl n j
theorem dl_length (n : Int) (j : Nat) : (dl n j).length = j := by induction j with | zero => rfl | succ j ih => simp [dl, ih]
def room (n : Int) (j : Nat) : Array Value := ((List.replicate (20 - j) 0 ++ dl n j).map (Value.int .u8)).toArray
theorem room_size (n : Int) (j : Nat) (h : j ≤ 20) : (room n j).size = 20 := by
  have e : (room n j).size = 20 - j + j := by simp [room, dl_length]
  omega
theorem room_step (n : Int) (j : Nat) (h : j < 20) : (room n j).setIfInBounds (19 - j) (.int .u8 (48 + n / 10 ^ j % 10)) = room n (j + 1) := by
  have e : List.replicate (20 - j) (0 : Int) = List.replicate (20 - (j + 1)) 0 ++ [0] := by
    rw [show 20 - j = (20 - (j + 1)) + 1 by omega, List.replicate_succ']
  unfold room
  rw [e, dl, List.append_assoc, List.setIfInBounds_toArray, List.map_append, List.map_append, List.set_append_right _ _ (by simp)]
  rw [List.length_map, List.length_replicate, show 19 - j - (20 - (j + 1)) = 0 by omega, List.map_append]
  rfl
theorem room_reads (W : World) (g : Nat) (n : Int) (j : Nat) (h : j ≤ 20) (T : TypeId) (hI : Blk.Is W g (room n j) T) : Kd.C (Kd.int .u8) W (some ⟨g, 20 - j, none⟩) (dl n j).length (dl n j) := by
  refine ⟨rfl, by rw [dl_length]; omega, fun _ => ⟨_, rfl, fun i x hi => ⟨[Value.int .u8 x], rfl, rfl, fun q v hq => ?_⟩⟩⟩
  match q, hq with
  | 0, hq =>
    injection hq with hq
    subst hq
    have h2 := hI.cell (20 - j + i)
    have e : (room n j)[20 - j + i]? = some (Value.int .u8 x) := by
      simp only [room, List.getElem?_toArray, List.getElem?_map]
      rw [List.getElem?_append_right (by simp), List.length_replicate, Nat.add_sub_cancel_left, hi]
      rfl
    rw [e] at h2
    have e2 : (⟨g, 20 - j, none⟩ : Addr).add (i * 1 + 0) = ⟨g, 20 - j + i, none⟩ := by simp [Addr.add]
    show World.cell? _ ((⟨g, 20 - j, none⟩ : Addr).add (i * 1 + 0)) = _
    rw [e2]
    exact h2
  | q + 1, hq => simp at hq
theorem zero81 (w : World) : (zeroValue 81).run Try.prog w = .ok (.agg (room 0 0)) w := by kernel_rfl

theorem cut20 (g m : Nat) (hm : m < 20) (W : World) : (Instr.sliceAt 81 (.pointer (some ⟨g, 0, none⟩)) (some (.int .i64 (m : Int))) none none).run Try.prog W = .ok (.slice (some ⟨g, m, none⟩) (20 - m) (20 - m)) W := by
  obtain ⟨i0, hi0, hz0, hsz0, hb0⟩ := info_parts Row.infoB
  have h1 : (m : Int) ≤ 20 := by omega
  have h2 : ¬ (20 = m) := by omega
  simp [Instr.sliceAt, Instr.sureAddr, Instr.sliceBounds, Instr.sliceBound, underlying, Try.underlying81, sizeOf, typeInfo, hi0, hsz0, asIntOf, h1, h2, Addr.add]
  rw [if_pos (by omega)]
  by_cases e : m = 0
  · subst e; rfl
  · rw [if_neg e]
theorem dig10 (n : Int) (h0 : 0 ≤ n) (h1 : n < 10) : Hex.dig n = 48 + n := by
  have h : ∀ m : Fin 10, Hex.dig ((m.val : Nat) : Int) = 48 + ((m.val : Nat) : Int) := by decide +kernel
  have := h ⟨n.toNat, by omega⟩
  rwa [Int.toNat_of_nonneg h0] at this
set_option maxHeartbeats 1000000 in
theorem digits (n : Int) (w : World) (h0 : 0 ≤ n) (h1 : n < 18446744073709551616) :
    Calls Try.prog 37 #[.int .u64 n] w fun e w' => (∃ j : Nat, 0 < j ∧ n / 10 ^ j = 0 ∧ (∀ i, 0 < i → i < j → n / 10 ^ i ≠ 0) ∧ e = .returned (.string (strOfNums (dl n j)))) ∧ Below w.heap.size w w' := by
  have hz := zero81
  go_enter Try.func37, Try.ntmps37
  go_wp2_with fail
  have hI0 : Blk.Is (w.alloc (.cells (room 0 0) 81)) w.heap.size (room 0 0) 81 := Blk.Is.new _ _ _
  have HI0 : Hid (Blk.Is (w.alloc (.cells (room 0 0) 81)) w.heap.size (room n 0) 81) := hI0
  have HB0 : Hid (Below w.heap.size w (w.alloc (.cells (room 0 0) 81))) := (Below.refl _ _).alloc (Nat.le_refl _) _
  clear hI0 hz
  go_loopw [0, 4] (fun v0 v4 wr => ∃ j : Nat, j < 20 ∧ v4 = .int .i64 ((20 - j : Nat) : Int) ∧ v0 = .int .u64 (n / 10 ^ j) ∧ Hid (∀ i, 0 < i → i ≤ j → n / 10 ^ i ≠ 0) ∧ Hid (Blk.Is wr w.heap.size (room n j) 81) ∧ Hid (Below w.heap.size w wr)) (fun _ v4 _ => (intOf v4).toNat)
  case atStart => exact ⟨0, by omega, rfl, by simp, (show ∀ i, 0 < i → i ≤ 0 → _ from fun i h1 h2 => by omega), HI0, HB0⟩
  case round =>
    obtain ⟨j, hj, rfl, rfl, HN, HI, HB⟩ := hrel
    have hq0 : 0 ≤ n / 10 ^ j := Int.ediv_nonneg h0 (Int.pow_nonneg (by decide))
    have hqs : n / 10 ^ j / 10 = n / 10 ^ (j + 1) := by rw [Int.ediv_ediv_of_nonneg (Int.pow_nonneg (by decide)), Int.pow_succ]
    have hd0 : 0 ≤ n / 10 ^ j % 10 := Int.emod_nonneg _ (by decide)
    have hd1 : n / 10 ^ j % 10 < 16 := by omega
    have hd2 : n / 10 ^ j % 10 < 10 := by omega
    have hdig : Hex.dig (n / 10 ^ j % 10) = 48 + n / 10 ^ j % 10 := dig10 _ hd0 hd2
    have hcell : ∃ v, wr.cell? ⟨w.heap.size, 19 - j, none⟩ = some v := by
      rw [HI.out.cell]
      exact ⟨_, Array.getElem?_eq_getElem (by rw [room_size _ _ (by omega)]; omega)⟩
    obtain ⟨u, hu⟩ := hcell
    have hfr := HI.out.free (19 - j)
    have HS := Lib.hid (room_step n j hj)
    have HG := Lib.hid hdig
    have HQ := Lib.hid hqs
    have hat : ((20 - j : Nat) : Int) - 1 = ((19 - j : Nat) : Int) := by omega
    have hq2 : 0 ≤ n / 10 ^ (j + 1) := Int.ediv_nonneg h0 (Int.pow_nonneg (by decide))
    have hq3 : n / 10 ^ (j + 1) ≤ n := Int.ediv_le_self _ h0
    have hqd : IntKind.u64.wrap ((n / 10 ^ j).tdiv 10) = n / 10 ^ (j + 1) := by
      rw [Int.tdiv_eq_ediv_of_nonneg hq0, hqs]
      exact IntWalk.u64_in _ ⟨hq2, by omega⟩
    clear hdig HI0 HB0 hqs hq3
    by_cases hz : n / 10 ^ (j + 1) = 0
    · have hzb : (n / 10 ^ (j + 1) == 0) = true := beq_iff_eq.mpr hz
      have hst : Hid (Blk.Is (wr.setCell ⟨w.heap.size, 19 - j, none⟩ (.int .u8 (48 + n / 10 ^ j % 10))) w.heap.size (room n (j + 1)) 81) := by
        show Blk.Is _ _ _ _
        rw [← HS.out]
        exact HI.out.set _ _
      have hC := room_reads _ _ n (j + 1) (by omega) _ hst.out
      rw [dl_length] at hC
      have hcv := Kd.C_string (P := Try.prog) (c := j + 1) Try.underlying22 Try.underlying5 Try.underlying9 hC
      have hsl := cut20 w.heap.size (19 - j) (by omega)
      rw [show 20 - (19 - j) = j + 1 by omega] at hsl
      rw [show 20 - (j + 1) = 19 - j by omega] at hcv
      have HZ := Lib.hid hz
      have hda := fun hh => (Hex.digAt (n / 10 ^ j % 10) hh).trans HG.out
      clear hz hC hst
      go_wp2
      go_ret
      exact ⟨⟨j + 1, by omega, HZ.out, fun i hi hj => HN.out i hi (by omega), rfl⟩, HB.out.setCell (Nat.le_refl _) _⟩
    · have hzb : (n / 10 ^ (j + 1) == 0) = false := beq_eq_false_iff_ne.mpr hz
      have hlt : j + 1 < 20 := by
        rcases Nat.lt_or_ge (j + 1) 20 with h | h
        · exact h
        · obtain rfl : j = 19 := by omega
          exact absurd (Int.ediv_eq_zero_of_lt h0 (Int.lt_trans h1 (by decide))) hz
      have HZ := Lib.hid hz
      clear hz
      go_wp2
      go_roundw
      case rel => exact ⟨j + 1, hlt, by rw [show 19 - j = 20 - (j + 1) by omega], rfl, (show ∀ i, _ → _ → _ from fun i hi hj => if e : i ≤ j then HN.out i hi e else by rw [show i = j + 1 by omega]; exact HZ.out), (show Blk.Is _ _ _ _ by rw [Hex.digAt, HG.out, ← HS.out]; exact HI.out.set _ _), HB.out.setCell (Nat.le_refl _) _⟩
      case measure => simp [intOf]; omega
end Go.Proofs.Ytengdchgfhcdhaa.Digits
