/- What is said here: what the library's Cut and Split answer at one byte, and which texts have letters alone. -/
import Derived.Test.YtilhpgjohpekkaaDoorPLib2
import Derived.Outline
import Derived.Lib.SplitLaws
import Derived.Lib.Hide
namespace Go.Proofs.YtilhpgjohpekkaaDoor.PLib
set_option linter.unusedVariables false
set_option linter.unusedSimpArgs false
open Go.RowKit Go.Lib Go.Proofs.YtilhpgjohpekkaaDoorW.PrintWords Go.Proofs.YtilhpgjohpekkaaDoorW.PrintLast Go.Proofs.YtilhpgjohpekkaaDoorW.PrintMore

set_option maxHeartbeats 1000000 in
theorem cut_one (s : ByteArray) (c : UInt8) (w : World) (hs : s.size ≤ 140737488351232) :
    Calls Tryd.prog 37 #[.string s, .string ⟨#[c]⟩] w fun e w' => e = .returned (.tuple #[.string (cutS c s).1, .string (cutS c s).2.1, .bool (cutS c s).2.2]) ∧ Drawn0 w w' := by
  go_enter Tryd.func37, Tryd.ntmps37
  go_wp2_with (go_at_call 51; refine (lite_Cut _ _ _ hs).mono ?_; rintro e w' ⟨rfl, n, rfl⟩)
  go_ret3
  exact ⟨rfl, ⟨_, rfl⟩⟩

theorem info9 : (Tryd.prog.info? 9).map (fun i => (i.zero, i.size, i.bytes)) = some (some (.string ByteArray.empty), 1, 16) := by kernel_rfl
theorem txt_size (l : List UInt8) : (txt l).size = l.length := by
  unfold txt
  show l.toArray.size = _
  simp
theorem txt_list (l : List UInt8) : (txt l).data.toList = l := by simp [txt]
theorem count_le (c : UInt8) (s : ByteArray) : s.data.toList.count c ≤ s.size := by rw [size_data]; exact List.count_le_length

set_option maxHeartbeats 4000000 in
set_option maxRecDepth 1000000 in
theorem genSplit (s : ByteArray) (c : UInt8) (w : World) (hs : s.size < 4294967281) :
    Calls Tryd.prog 49 #[.string s, .string ⟨#[c]⟩, .int .i64 0, .int .i64 (-1)] w fun e w' =>
      e = .returned (.slice (some ⟨w.heap.size, 0, none⟩) (pieces c s).length (pieces c s).length) ∧ w' = w.alloc (.cells ((pieces c s).map Value.string).toArray 9) := by
  obtain ⟨cn, hcn⟩ : ∃ cn : Nat, Lib.countByte s.data.toList c = cn := ⟨_, rfl⟩
  have hcl : cn ≤ s.size := by rw [← hcn]; exact count_le c s
  have hpl : (pieces c s).length = cn + 1 := by unfold pieces; rw [List.length_map, segs_len, ← hcn]; rfl
  have hcc : s.data.toList.count c = cn - ([] : List ByteArray).length := by rw [← hcn]; rfl
  have hC := count_one s c w
  rw [hcn] at hC
  have hmk := run_make_row' (P := Tryd.prog) 25 9 (.string ByteArray.empty) 16 Tryd.underlying25 info9 rfl .i64 .i64 (cn + 1) (by omega) (by omega)
  rw [show ((cn + 1 : Nat) : Int) = (cn : Int) + 1 from rfl] at hmk
  rw [hpl]
  have hpos : (0 : Int) ≤ (cn : Int) + 1 := by omega
  have hmin : min (cn : Int) (s.size : Int) = (cn : Int) := Int.min_eq_left (by omega)
  clear hcn
  go_enter Tryd.func49, Tryd.ntmps49
  go_wp2_with (first | (go_at_call 48; refine hC.mono ?_; rintro e w' ⟨rfl, hw⟩; rw [hw]))
  clear hmk hC hmin
  go_loopg [0, 10] cn (fun g s0 s10 wr => ∃ (done : List ByteArray) (rest : ByteArray), s0 = .string rest ∧ s10 = .int .i64 done.length ∧ done.length ≤ cn ∧ g = cn - done.length ∧ rest.size ≤ s.size ∧
      wr = w.alloc (.cells (Lib.cellsOf done (cn + 1)) 9) ∧ rest.data.toList.count c = cn - done.length ∧ done ++ pieces c rest = pieces c s)
  case atStart => exact ⟨[], s, rfl, rfl, Nat.zero_le _, rfl, Nat.le_refl _, by rw [Lib.cellsOf_nil], hcc, rfl⟩
  case round =>
    obtain ⟨done, rest, rfl, rfl, hd, rfl, hrs, rfl, hct, hsp⟩ := hrel
    have hnext : (Lib.cellsOf done (cn + 1))[done.length]? = some (.string ByteArray.empty) := Lib.cellsOf_next (by omega)
    have HS := Lib.hid hsp
    have HT := Lib.hid hct
    clear hsp hct
    by_cases hlt : done.length < cn
    · have hltz : ((done.length : Nat) : Int) < (cn : Int) := by omega
      rcases index_nat rest.data.toList c with ⟨h1, h2⟩ | ⟨i, h1, h2, h3⟩
      · exfalso
        have := segs_len c rest.data.toList
        rw [h2, HT.out] at this
        simp at this
        omega
      · have hi : i < rest.size := by rw [size_data]; exact h2
        have c0 : ¬ ((i : Int) < 0) := by omega
        have c5 : (0 : Int) ≤ (i : Int) := by omega
        have c1 : (i : Int) ≤ (rest.size : Int) := by omega
        have c2 : (0 : Int) ≤ (i : Int) + 1 := by omega
        have c3 : (i : Int) + 1 ≤ (rest.size : Int) := by omega
        have H3 := Lib.hid h3
        clear h2 h3
        go_wp2_with (first | (go_at_call 68; refine (index_one rest c _).mono ?_; rintro e w' ⟨rfl, hw⟩; rw [hw, h1]))
        go_roundg (cn - (done.length + 1))
        case measure => omega
        case rel =>
          have e1 : rest.extract 0 i = txt (rest.data.toList.take i) := by rw [extract_txt]; rfl
          have e2 : (rest.extract (i + 1) rest.size).data.toList = rest.data.toList.drop (i + 1) := by rw [extract_txt, txt_list, size_data, List.take_length]
          refine ⟨done ++ [rest.extract 0 i], rest.extract (i + 1) rest.size, rfl, by simp, by simp; omega, by simp, by rw [ByteArray.size_extract]; omega, by rw [← Lib.cellsOf_set (by omega)], ?_, ?_⟩
          · have := segs_len c rest.data.toList
            rw [H3.out, List.length_cons, segs_len, HT.out] at this
            rw [e2]
            simp
            omega
          · rw [← HS.out]
            have : pieces c rest = rest.extract 0 i :: pieces c (rest.extract (i + 1) rest.size) := by
              unfold pieces
              rw [H3.out, List.map_cons, e1, e2]
            rw [this]
            simp
    · have hltz : ¬ (((done.length : Nat) : Int) < (cn : Int)) := by omega
      obtain rfl : cn = done.length := by omega
      have hmiss : pieces c rest = [rest] := by
        have h0 : rest.data.toList.count c = 0 := by rw [HT.out]; omega
        rcases index_nat rest.data.toList c with ⟨h1, h2⟩ | ⟨i, h1, h2, h3⟩
        · unfold pieces; rw [h2]; show [txt _] = _; rw [txt_data]
        · exfalso
          have := segs_len c rest.data.toList
          rw [h3, h0, List.length_cons, segs_len] at this
          omega
      have HM := Lib.hid hmiss
      clear hmiss
      go_wp2
      go_ret
      have e := HS.out
      rw [HM.out] at e
      refine ⟨by first | rfl | (congr 2 <;> omega), ?_⟩
      rw [← e, Lib.cellsOf_set (by omega), show done.length + 1 = (done ++ [rest]).length by simp, Lib.cellsOf_full]
set_option maxHeartbeats 1000000 in
theorem split_one (s : ByteArray) (c : UInt8) (w : World) (hs : s.size < 4294967281) :
    Calls Tryd.prog 33 #[.string s, .string ⟨#[c]⟩] w fun e w' => e = .returned (.slice (some ⟨w.heap.size, 0, none⟩) (pieces c s).length (pieces c s).length) ∧ w' = w.alloc (.cells ((pieces c s).map Value.string).toArray 9) := by
  go_enter Tryd.func33, Tryd.ntmps33
  go_wp2_with (go_at_call 49; refine (genSplit s c _ hs).mono ?_; rintro e w' ⟨rfl, hw⟩; rw [hw])
  go_ret
  exact ⟨rfl, rfl⟩
theorem split_R (w : World) (xs : List ByteArray) (hx : xs.length ≤ 8796093022208) : Kd.R Kd.string 9 (w.alloc (.cells (xs.map Value.string).toArray 9)) w.heap.size (fun _ => True) (.slice (some ⟨w.heap.size, 0, none⟩) xs.length xs.length) xs := by
  refine Kd.R_of_own ⟨by rw [encs_length]; simp, Or.inr ⟨w.heap.size, xs.length, (xs.map Value.string).toArray, rfl, Nat.le_refl _, heap_alloc_new w _, Nat.le_refl _, by unfold maxLen; omega, by simp, ?_⟩⟩ (fun _ _ => trivial)
  show (xs.map Value.string).take (xs.length * 1) = xs.map Value.string
  rw [List.take_of_length_le (by simp)]

/-- A byte that may stand in a segment. -/
def letB (x : Int) : Bool := decide ((97 ≤ x ∧ x ≤ 122) ∨ (65 ≤ x ∧ x ≤ 90) ∨ (48 ≤ x ∧ x ≤ 57) ∨ x = 95 ∨ x = 45 ∨ x = 46)
def letS (s : ByteArray) : Bool := (bytesOf s).all letB && decide (s.size ≤ 32)
set_option maxHeartbeats 4000000 in
set_option maxRecDepth 100000 in
theorem letters (s : ByteArray) (w : World) (hs : s.size ≤ 4294967281) :
    Calls Tryd.prog 50 #[.string s] w fun e w' => e = .returned (.bool (letS s)) ∧ Below w.heap.size w w' := by
  have kb := fun W => print_bytes (P := Tryd.prog) 9 54 5 Tryd.underlying9 Tryd.underlying54 Tryd.underlying5 s W
  have hrd := bytes_reads w 5 s (by omega)
  have hbel := bytes_below (Below.refl w.heap.size w) (Nat.le_refl _) 5 s
  obtain ⟨r, hr⟩ : ∃ r, r = letS s := ⟨_, rfl⟩
  rw [← hr]
  have HR := Lib.hid hr
  clear hr
  go_enter Tryd.func50, Tryd.ntmps50
  go_wp2
  have hcell : ∀ j, j < s.size → (Lib.bytesWorld w 5 s).cell? ⟨w.heap.size, j, none⟩ = some (.int .u8 ((bytesOf s).getD j 0)) := by
    intro j hj
    obtain ⟨ad, e, hc⟩ := hrd.2.2 (by omega)
    injection e with e
    subst e
    have := hc j hj
    rwa [WideShapes.add_plain, Nat.zero_add] at this
  have HC := Lib.hid hcell
  have HB := Lib.hid hbel
  have hcap := grownCap_ge w s.size 0 5
  generalize grownCap w s.size 0 5 = cap at *
  generalize Lib.bytesWorld w 5 s = W1 at *
  have hbl := bytesOf_length s
  have HBL := Lib.hid hbl
  clear kb hrd hbel hcell hbl
  go_loop [8] (fun v8 => ∃ i : Nat, i ≤ s.size ∧ v8 = .int .i64 (i : Int) ∧ Hid (((bytesOf s).take i).all letB = true)) (fun v8 => s.size - (Go.RowKit.intOf v8).toNat)
  case atStart => exact ⟨0, by omega, rfl, rfl⟩
  case round =>
    obtain ⟨i, hi, rfl, HA⟩ := hrel
    by_cases hlt : i < s.size
    · have hc := HC.out i hlt
      have hib : i < (bytesOf s).length := by rw [HBL.out]; exact hlt
      have hx : (bytesOf s).getD i 0 = (bytesOf s)[i] := by rw [List.getD_eq_getElem?_getD, List.getElem?_eq_getElem hib]; rfl
      have HN : Hid (((bytesOf s).take (i + 1)).all letB = (((bytesOf s).take i).all letB && letB ((bytesOf s).getD i 0))) := by
        show _ = _
        rw [List.take_succ_eq_append_getElem hib, List.all_append, hx]
        simp
      have HF : Hid (letB ((bytesOf s).getD i 0) = false → letS s = false) := fun h => by
        unfold letS
        have : (bytesOf s).all letB = false := by
          rw [List.all_eq_false]
          exact ⟨_, List.getElem_mem hib, by rw [← hx, h]; decide⟩
        rw [this]
        rfl
      clear hx hib
      generalize (bytesOf s).getD i 0 = x at *
      go_wp2
      all_goals first
        | (go_round
           case rel => exact ⟨i + 1, by omega, by go_num, by show _ = true; rw [HN.out, HA.out, Bool.true_and]; unfold letB; rw [decide_eq_true_eq]; (try simp only [beq_iff_eq, beq_eq_false_iff_ne, ne_eq] at *); omega⟩
           case measure => simp [Go.RowKit.intOf]; omega)
        | (go_ret
           refine ⟨?_, HB.out⟩
           rw [HR.out, HF.out (by unfold letB; rw [decide_eq_false_iff_not]; (try simp only [beq_iff_eq, beq_eq_false_iff_ne, ne_eq] at *); omega)]; rfl)
    · obtain rfl : i = s.size := by omega
      have hall : letS s = decide ((s.size : Int) ≤ 32) := by
        unfold letS
        have h2 := HA.out
        rw [← HBL.out, List.take_length] at h2
        rw [h2, Bool.true_and]
        congr 1
        exact propext (by omega)
      have HL := Lib.hid hall
      clear hall hlt hi HC HBL HA
      go_wp2
      go_ret
      exact ⟨by rw [HR.out, HL.out]; rfl, HB.out⟩
end Go.Proofs.YtilhpgjohpekkaaDoor.PLib
