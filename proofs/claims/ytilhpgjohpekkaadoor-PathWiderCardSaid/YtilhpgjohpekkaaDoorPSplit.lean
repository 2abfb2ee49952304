/- What is said here: what path.Split answers. -/
import Derived.Test.YtilhpgjohpekkaaDoorPAx
import Derived.Test.YtilhpgjohpekkaaDoorPLib4
import Derived.Outline
import Derived.Lib.Hide
namespace Go.Proofs.YtilhpgjohpekkaaDoor.PSplit
set_option linter.unusedVariables false
set_option linter.unusedSimpArgs false
open Go.RowKit Go.Proofs.YtilhpgjohpekkaaDoorW.PrintWords Go.Proofs.YtilhpgjohpekkaaDoorW.PrintLast Go.Proofs.YtilhpgjohpekkaaDoorW.PrintMore
open PLib (pieces segs)

/-- A segment. -/
def segB (s : ByteArray) : Bool := PLib.letS s && (decide (s.toList ≠ []) && (decide (s.toList ≠ [46]) && decide (s.toList ≠ [46, 46])))
def longB (s : ByteArray) : Bool := decide (128 < s.size) || decide (16 ≤ s.data.toList.count 47)
theorem long_f (s : ByteArray) : PA.path_long.f s = some (longB s) := by
  unfold PA.path_long.f longB
  have e : PA.strings_Count.f s ⟨#[47]⟩ = some ((s.data.toList.count 47 : Nat) : Int) := rfl
  by_cases h : 128 < s.size
  · rw [if_pos (by omega), decide_eq_true h]; rfl
  · rw [if_neg (by omega), e, decide_eq_false h, Bool.false_or, Option.bind_some]
    congr 1
    rw [Bool.eq_iff_iff, decide_eq_true_eq, decide_eq_true_eq]
    omega
theorem seg_f (s : ByteArray) (h : s.size ≤ 1000000000) : PA.path_segment.f s = some (segB s) := by
  unfold PA.path_segment.f segB
  have e : PA.path_letters.f s = some (PLib.letS s) := by show PLib.lettersF s = _; unfold PLib.lettersF; rw [if_pos h]
  rw [e, Option.bind_some]
  cases PLib.letS s with
  | false => rw [if_neg (by decide)]; rfl
  | true =>
    rw [if_pos rfl, Bool.true_and]
    by_cases h1 : s.toList = []
    · rw [if_pos h1]; simp [h1]
    · rw [if_neg h1]
      by_cases h2 : s.toList = [46]
      · rw [if_pos h2]; simp [h2]
      · rw [if_neg h2]
        simp [h1, h2, bne, Bool.beq_eq_decide_eq]
/-- path.Split. -/
def splitR (s : ByteArray) : List ByteArray × Int := if longB s = true then ([], 3) else if (pieces 47 s).all segB = true then (pieces 47 s, 0) else ([], 150)

theorem piece_size (c : UInt8) (s : ByteArray) : ∀ x ∈ pieces c s, x.size ≤ s.size := by
  have h : ∀ l : List UInt8, ∀ y ∈ segs c l, y.length ≤ l.length := by
    intro l
    induction l with
    | nil => intro y hy; simp [segs] at hy; subst hy; simp
    | cons x l ih =>
      intro y hy
      unfold segs at hy
      split at hy
      · rcases List.mem_cons.1 hy with rfl | hy
        · simp
        · have := ih y hy; simp; omega
      · split at hy
        · rcases List.mem_cons.1 hy with rfl | hy
          · simp
          · cases hy
        · rename_i a t hs
          rcases List.mem_cons.1 hy with rfl | hy
          · have := ih a (by rw [hs]; simp); simp; omega
          · have := ih y (by rw [hs]; simp [hy]); simp; omega
  intro x hx
  obtain ⟨y, hy, rfl⟩ := List.mem_map.1 hx
  rw [PLib.txt_size, PLib.size_data]
  exact h _ y hy

set_option maxRecDepth 100000 in
set_option maxHeartbeats 2000000 in
theorem split_calls (s : ByteArray) (w : World) :
    Calls Tryd.prog 16 #[.string s] w fun e w' => ∃ v0_ : Value, e = .returned (.tuple #[v0_, .int .i64 (splitR s).2]) ∧ Kd.R Kd.string 9 w' w.heap.size (fun _ => True) v0_ (splitR s).1 ∧ Below w.heap.size w w' := by
  cases hL : longB s with
  | true =>
    have e : splitR s = ([], 3) := by unfold splitR; rw [if_pos hL]
    rw [e]
    have hf := long_f s
    rw [hL] at hf
    have HF := Lib.hid hf
    clear e hL hf
    go_enter Tryd.func16, Tryd.ntmps16
    go_wp2_with fail
    refine (PA.path_long.calls s true _ HF.out).mono ?_
    rintro e w1 ⟨rfl, n1, rfl⟩
    go_wp2
    go_ret2
    exact ⟨_, rfl, Kd.R_nil _ _ _ _ _, pw_below_drewN (Below.refl _ _) n1⟩
  | false =>
    have hsz : s.size ≤ 128 := by
      unfold longB at hL
      rw [Bool.or_eq_false_iff, decide_eq_false_iff_not] at hL
      omega
    have e : splitR s = if (pieces 47 s).all segB = true then (pieces 47 s, 0) else ([], 150) := by unfold splitR; rw [if_neg (by rw [hL]; decide)]
    have hf := long_f s
    rw [hL] at hf
    have HF := Lib.hid hf
    obtain ⟨r, hr⟩ : ∃ r, r = splitR s := ⟨_, rfl⟩
    rw [← hr]
    have HR := Lib.hid (hr.trans e)
    have HPS := Lib.hid (piece_size 47 s)
    have hpl : (pieces 47 s).length ≤ 129 := by
      have := PLib.count_le 47 s
      unfold pieces
      rw [List.length_map, PLib.segs_len]
      omega
    clear e hL hf hr
    go_enter Tryd.func16, Tryd.ntmps16
    go_wp2_with fail
    refine (PA.path_long.calls s false _ HF.out).mono ?_
    rintro e w1 ⟨rfl, n1, rfl⟩
    have HB1 := Lib.hid (pw_below_drewN (Below.refl w.heap.size w) n1)
    generalize w.drewN n1 = w1 at *
    go_wp2_with fail
    refine (PLib.split_one s 47 w1 (by omega)).mono ?_
    rintro e w2 ⟨rfl, hw⟩
    have hR := PLib.split_R w1 (pieces 47 s) (by omega)
    have hcell : ∀ j (h : j < (pieces 47 s).length), w2.cell? ⟨w1.heap.size, j, none⟩ = some (.string (pieces 47 s)[j]) := by
      intro j h
      rw [hw, cell_of_row _ _ j _ _ (0, 0) (heap_alloc_new w1 _)]
      simp [h]
    rw [← hw] at hR
    have hb : Below w1.heap.size w1 w2 := by rw [hw]; exact (Below.refl _ _).alloc (Nat.le_refl _) _
    have hlt' : w1.heap.size < w2.heap.size := by rw [hw]; simp
    have HROW := Lib.hid hR
    have HC := Lib.hid hcell
    have HB2 : Hid (Below w.heap.size w w2) := HB1.out.trans (hb.mono HB1.out.size)
    have HS1 : Hid (w.heap.size ≤ w1.heap.size) := HB1.out.size
    clear hR hcell hb hw HF HB1
    generalize pieces 47 s = ps at *
    generalize w1.heap.size = K at *
    go_wp2_with fail
    go_loopw [2, 12] (fun v2 v12 wr => ∃ i : Nat, i ≤ ps.length ∧ v12 = .int .i64 (i : Int) ∧ v2 = .slice (some ⟨K, 0, none⟩) ps.length ps.length ∧ Hid ((ps.take i).all segB = true) ∧ Hid (Below w2.heap.size w2 wr)) (fun _ v12 _ => ps.length - (Go.RowKit.intOf v12).toNat)
    case atStart => exact ⟨0, by omega, rfl, rfl, rfl, Below.refl _ _⟩
    case round =>
      obtain ⟨i, hi, rfl, rfl, HA, HB⟩ := hrel
      by_cases hlt : i < ps.length
      · have hc : wr.cell? ⟨K, i, none⟩ = some (.string ps[i]) := (HB.out.cell (p := ⟨K, i, none⟩) hlt').trans (HC.out i hlt)
        have hsf := seg_f ps[i] (Nat.le_trans (HPS.out _ (List.getElem_mem hlt)) (by omega))
        have HN : Hid ((ps.take (i + 1)).all segB = ((ps.take i).all segB && segB ps[i])) := by
          show _ = _
          rw [List.take_succ_eq_append_getElem hlt, List.all_append]
          simp
        have HF0 : Hid (segB ps[i] = false → ps.all segB = false) := fun h => by
          rw [List.all_eq_false]
          exact ⟨_, List.getElem_mem hlt, by rw [h]; decide⟩
        generalize ps[i] = x at *
        have HSF := Lib.hid hsf
        clear hsf
        cases hB : segB x with
        | false =>
          have hr : r = ([], 150) := by rw [HR.out, if_neg (by rw [HF0.out hB]; decide)]
          subst hr
          rw [hB] at HSF
          clear HN HF0 HA hB
          go_wp2_with fail
          refine (PA.path_segment.calls x false _ HSF.out).mono ?_
          rintro e w4 ⟨rfl, hb⟩
          have hB4 : Below w.heap.size w w4 := (HB2.out.trans (HB.out.mono HB2.out.size)).trans (hb.mono (Nat.le_trans HB2.out.size HB.out.size))
          go_wp2
          go_ret2
          exact ⟨_, rfl, Kd.R_nil _ _ _ _ _, hB4⟩
        | true =>
          rw [hB] at HSF HN
          clear HF0 hB
          go_wp2_with fail
          refine (PA.path_segment.calls x true _ HSF.out).mono ?_
          rintro e w4 ⟨rfl, hb⟩
          have HB4 : Hid (Below w2.heap.size w2 w4) := HB.out.trans (hb.mono HB.out.size)
          clear hb
          go_wp2_with fail
          go_roundw
          case rel => exact ⟨i + 1, by omega, by go_num, rfl, by show _ = true; rw [HN.out, HA.out]; rfl, HB4⟩
          case measure => simp [Go.RowKit.intOf]; omega
      · obtain rfl : i = ps.length := by omega
        have hall := HA.out
        rw [List.take_length] at hall
        have hr : r = (ps, 0) := by rw [HR.out, if_pos hall]
        subst hr
        have hB4 : Below w.heap.size w w2 := HB2.out
        have HB5 := Lib.hid (hB4.trans (HB.out.mono hB4.size))
        have HR5 := Lib.hid (Kd.R_below HROW.out HB.out)
        clear hall HA hlt hi hB4
        go_wp2
        go_ret2
        exact ⟨_, rfl, Kd.R_lower HR5.out HS1.out, HB5.out⟩
end Go.Proofs.YtilhpgjohpekkaaDoor.PSplit
