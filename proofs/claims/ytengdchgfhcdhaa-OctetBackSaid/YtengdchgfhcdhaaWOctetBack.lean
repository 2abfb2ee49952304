/- It is proved here that the law OctetBack, called with any bytes ahead, any items and any bytes behind, answers true and leaves what was there alone. No condition. -/
import Derived.Test.YtengdchgfhcdhaaItems
import Derived.BigQuiet
import Derived.Deep.QuietTactic
namespace Go.Proofs.Ytengdchgfhcdhaa.HOctetBack
set_option linter.unusedVariables false
set_option linter.unusedSimpArgs false
open Go.RowKit Go.Proofs.YtengdchgfhcdhaaW.PrintWords Go.Proofs.YtengdchgfhcdhaaW.PrintLast Go.Proofs.YtengdchgfhcdhaaW.PrintMore
open PureBack

theorem copy_f (l : List Int) (h : l.length ≤ 100000000000000) : PA.ciboriumref00_CopyBytes.f l = some l := by
  unfold PA.ciboriumref00_CopyBytes.f
  rw [if_pos (by simp; omega)]
  rfl
set_option maxHeartbeats 1000000 in
theorem law_far (A0 : Option Addr) (c0 n0 : Nat) (A1 : Option Addr) (c1 n1 : Nat) (A2 : Option Addr) (c2 n2 : Nat) (w : World) (h : 32768 < n0 + n2 ∨ 200 < n1) (h0 : n0 ≤ 140737488351232) (h2 : n2 ≤ 140737488351232) (h1 : n1 ≤ 9223372036854775807) :
    Calls Try.prog 6 #[.slice A0 n0 c0, .slice A1 n1 c1, .slice A2 n2 c2] w fun e w' => e = .returned (.bool true) ∧ Below w.heap.size w w' := by
  have hw : IntKind.i64.wrap ((n0 : Int) + (n2 : Int)) = (n0 : Int) + (n2 : Int) := IntWalk.i64_in _ (by omega)
  by_cases hx : 32768 < n0 + n2
  · have hx2 : (n0 : Int) + (n2 : Int) > 32768 := by omega
    go_enter Try.func6, Try.ntmps6
    go_wp2_with fail
    refine (Works.works _).mono ?_
    rintro e w1 ⟨rfl, hb⟩
    go_wp2
    go_ret
    exact ⟨rfl, hb⟩
  · have hx1 : 200 < n1 := h.resolve_left hx
    have hx2 : ¬ (n0 : Int) + (n2 : Int) > 32768 := by omega
    go_enter Try.func6, Try.ntmps6
    go_wp2_with fail
    refine (Works.works _).mono ?_
    rintro e w1 ⟨rfl, hb⟩
    go_wp2
    go_ret
    exact ⟨rfl, hb⟩

/-- The items are read. -/
def Reads (W : World) (A : Option Addr) (xs : List (Int × Int × ByteArray)) : Prop :=
  ∀ (i : Nat) (h : i < xs.length), ∃ b o, A = some ⟨b, o, none⟩ ∧ W.cell? ⟨b, o + i * 3, none⟩ = some (.int .i64 xs[i].1) ∧ W.cell? ⟨b, o + i * 3 + 1, none⟩ = some (.int .u64 xs[i].2.1) ∧ W.cell? ⟨b, o + i * 3 + 2, none⟩ = some (.string xs[i].2.2)
/-- A text, cut to 2000. -/
def cut (t : ByteArray) : ByteArray := if 2000 < t.size then t.extract 0 2000 else t
def cutI (x : Int × Int × ByteArray) : Int × Int × ByteArray := (x.1, x.2.1, cut x.2.2)
theorem cut_size (t : ByteArray) : (cut t).size ≤ 2000 := by
  unfold cut
  split
  · rw [ByteArray.size_extract]; omega
  · omega
/-- The bytes of the first items. -/
def flat (xs : List (Int × Int × ByteArray)) : List Int := xs.flatMap (fun x => itemL x.1 x.2.1 (cut x.2.2))
theorem flat_len (xs : List (Int × Int × ByteArray)) : (flat xs).length ≤ 2008 * xs.length := by
  induction xs with
  | nil => simp [flat]
  | cons x xs ih =>
    have h1 := (itemL_pos x.1 x.2.1 (cut x.2.2)).2
    have h2 := cut_size x.2.2
    have e : flat (x :: xs) = itemL x.1 x.2.1 (cut x.2.2) ++ flat xs := by simp [flat]
    rw [e, List.length_append, List.length_cons]
    omega

/-- The reader behind the bytes ahead and the first i items. -/
def at_ (l0 : List Int) (xs : List (Int × Int × ByteArray)) (l2 : List Int) (i : Nat) : Reader.St := ⟨(l0 ++ flat xs) ++ l2, l0.length + (flat (xs.take i)).length, 0⟩
theorem flat_split (xs : List (Int × Int × ByteArray)) (i : Nat) (h : i < xs.length) : flat xs = flat (xs.take i) ++ (itemL xs[i].1 xs[i].2.1 (cut xs[i].2.2) ++ flat (xs.drop (i + 1))) := by
  have e : xs = xs.take i ++ (xs[i] :: xs.drop (i + 1)) := by rw [← List.drop_eq_getElem_cons h, List.take_append_drop]
  have e2 : flat (xs.take i ++ (xs[i] :: xs.drop (i + 1))) = flat (xs.take i) ++ (itemL xs[i].1 xs[i].2.1 (cut xs[i].2.2) ++ flat (xs.drop (i + 1))) := by
    unfold flat
    rw [List.flatMap_append, List.flatMap_cons]
  rw [← e2, ← e]
theorem at_before (l0 : List Int) (xs : List (Int × Int × ByteArray)) (l2 : List Int) (i : Nat) (h : i < xs.length) : Before (at_ l0 xs l2 i) (itemL xs[i].1 xs[i].2.1 (cut xs[i].2.2)) (flat (xs.drop (i + 1)) ++ l2) := by
  have e : (l0 ++ flat xs) ++ l2 = (l0 ++ flat (xs.take i)) ++ (itemL xs[i].1 xs[i].2.1 (cut xs[i].2.2) ++ (flat (xs.drop (i + 1)) ++ l2)) := by
    rw [flat_split xs i h]
    simp only [List.append_assoc]
  refine ⟨rfl, ?_, ?_⟩
  · show l0.length + (flat (xs.take i)).length ≤ ((l0 ++ flat xs) ++ l2).length
    rw [e]
    simp only [List.length_append]
    omega
  · show ((l0 ++ flat xs) ++ l2).drop (l0.length + (flat (xs.take i)).length) = _
    rw [e, ← List.length_append, List.drop_left]
theorem at_on (l0 : List Int) (xs : List (Int × Int × ByteArray)) (l2 : List Int) (i : Nat) (h : i < xs.length) : St.on (at_ l0 xs l2 i) (itemL xs[i].1 xs[i].2.1 (cut xs[i].2.2)).length = at_ l0 xs l2 (i + 1) := by
  have e : flat (xs.take (i + 1)) = flat (xs.take i) ++ itemL xs[i].1 xs[i].2.1 (cut xs[i].2.2) := by
    rw [List.take_succ_eq_append_getElem h, flat, List.flatMap_append]
    simp [flat]
  unfold at_ St.on
  rw [e, List.length_append, Nat.add_assoc]
theorem at_end (l0 : List Int) (xs : List (Int × Int × ByteArray)) (l2 : List Int) : (((at_ l0 xs l2 xs.length).bs.length : Int) - (at_ l0 xs l2 xs.length).at_ = (l2.length : Int)) ∧ Before (at_ l0 xs l2 xs.length) l2 [] := by
  refine ⟨?_, rfl, ?_, ?_⟩
  · show ((((l0 ++ flat xs) ++ l2).length : Int) - ((l0.length + (flat (xs.take xs.length)).length : Nat) : Int)) = _
    rw [List.take_length, List.length_append, List.length_append]
    omega
  · show l0.length + (flat (xs.take xs.length)).length ≤ ((l0 ++ flat xs) ++ l2).length
    rw [List.take_length, List.length_append, List.length_append]
    omega
  · show ((l0 ++ flat xs) ++ l2).drop (l0.length + (flat (xs.take xs.length)).length) = _
    rw [List.take_length, ← List.length_append, List.drop_left, List.append_nil]

set_option maxRecDepth 100000 in
set_option maxHeartbeats 4000000 in
theorem law (A0 : Option Addr) (c0 : Nat) (l0 : List Int) (A1 : Option Addr) (c1 : Nat) (xs : List (Int × Int × ByteArray)) (A2 : Option Addr) (c2 : Nat) (l2 : List Int) (w : World)
    (hr0 : Kd.C (Kd.int .u8) w A0 l0.length l0) (hc0 : l0.length ≤ c0) (y0 : l0.length ≤ 140737488351232)
    (hr2 : Kd.C (Kd.int .u8) w A2 l2.length l2) (hc2 : l2.length ≤ c2) (y2 : l2.length ≤ 140737488351232)
    (hI : Reads w A1 xs) (hxw : ∀ x ∈ xs, 0 ≤ x.2.1 ∧ x.2.1 < 18446744073709551616) (hc1 : xs.length ≤ c1) (y1 : xs.length ≤ 9223372036854775807) :
    Calls Try.prog 6 #[.slice A0 l0.length c0, .slice A1 xs.length c1, .slice A2 l2.length c2] w fun e w' => e = .returned (.bool true) ∧ Below w.heap.size w w' := by
  by_cases hfar : 32768 < l0.length + l2.length ∨ 200 < xs.length
  · exact law_far A0 c0 l0.length A1 c1 xs.length A2 c2 l2.length w hfar y0 y2 y1
  · have hw : IntKind.i64.wrap ((l0.length : Int) + (l2.length : Int)) = (l0.length : Int) + (l2.length : Int) := IntWalk.i64_in _ (by omega)
    have hx2 : ¬ (l0.length : Int) + (l2.length : Int) > 32768 := by omega
    have hl0 : l0.length + l2.length ≤ 32768 := by omega
    have hn : xs.length ≤ 200 := by omega
    have HR0 := Lib.hid hr0
    have HR2 := Lib.hid hr2
    have HI := Lib.hid hI
    have HXW := Lib.hid hxw
    clear hfar hr0 hr2 hI hxw y0 y1 y2
    go_enter Try.func6, Try.ntmps6
    go_wp2_with fail
    refine (PA.ciboriumref00_CopyBytes.calls A0 c0 l0 l0 _ HR0.out hc0 (copy_f l0 (by omega))).mono ?_
    rintro e w1 ⟨v1, rfl, hR, hb⟩
    have HV1 := Lib.hid (Row.of_R hR)
    have HB1 := Lib.hid hb
    clear hR hb
    go_wp2_with fail
    go_loopw [7, 8, 9] (fun v7 v8 v9 wr => ∃ i : Nat, i ≤ xs.length ∧ v9 = .int .i64 (i : Int) ∧ Hid (Row.Is wr w.heap.size v7 (l0 ++ flat (xs.take i))) ∧ Hid (Row.IsI wr w.heap.size v8 ((xs.take i).map cutI)) ∧ Hid (Below w.heap.size w wr)) (fun _ _ v9 _ => 200 - (intOf v9).toNat)
    case atStart => exact ⟨0, by omega, rfl, by simpa [flat] using HV1, Lib.hid (Row.IsI.nil _ _), HB1⟩
    case round =>
      obtain ⟨i, hi, rfl, H7, H8, HB⟩ := hrel
      by_cases hlt : i < xs.length
      · obtain ⟨b, o, rfl, x0, x1, x2⟩ := HI.out i hlt
        have z0 := (HB.out.cell (World.block_lt_of_cell? _ _ x0)).trans x0
        have z1 := (HB.out.cell (World.block_lt_of_cell? _ _ x1)).trans x1
        have z2 := (HB.out.cell (World.block_lt_of_cell? _ _ x2)).trans x2
        have hLn : (l0 ++ flat (xs.take i)).length ≤ 440000 := by
          have := flat_len (xs.take i)
          rw [List.length_take] at this
          rw [List.length_append]
          omega
        have HS : Hid (l0 ++ flat (xs.take (i + 1)) = (l0 ++ flat (xs.take i)) ++ itemL xs[i].1 xs[i].2.1 (cut xs[i].2.2)) := by
          show _ = _
          rw [List.take_succ_eq_append_getElem hlt, flat, List.flatMap_append, List.append_assoc]
          congr 1
          simp [flat]
        have HS2 : Hid ((xs.take (i + 1)).map cutI = (xs.take i).map cutI ++ [(xs[i].1, xs[i].2.1, cut xs[i].2.2)]) := by
          show _ = _
          rw [List.take_succ_eq_append_getElem hlt, List.map_append]
          rfl
        have hv := HXW.out _ (List.getElem_mem hlt)
        have hml : ((xs.take i).map cutI).length ≤ 200 := by rw [List.length_map, List.length_take]; omega
        clear x0 x1 x2
        generalize xs[i].1 = k at *
        generalize xs[i].2.1 = v at *
        generalize xs[i].2.2 = t at *
        generalize l0 ++ flat (xs.take i) = L at *
        generalize (xs.take i).map cutI = X at *
        have Hv := Lib.hid hv
        have hts := cut_size t
        clear hv
        obtain ⟨A7, c7, rfl, hc7, hC7⟩ := H7.out.reads
        have HC7 := Lib.hid hC7
        clear hC7
        by_cases hbig : 2000 < t.size
        · have hT : cut t = t.extract 0 2000 := by unfold cut; rw [if_pos hbig]
          rw [hT] at hts HS HS2
          go_wp2_with fail
          generalize t.extract 0 2000 = t' at *
          clear hT hbig
          have hKw : w.heap.size ≤ wr.heap.size := HB.out.size
          have HX := Lib.hid (Blk.Is.new wr #[.int .i64 k, .int .u64 v, .string t'] 59)
          have H8a := Lib.hid (H8.out.alloc (.cells #[.int .i64 k, .int .u64 v, .string t'] 59))
          have HBa := Lib.hid (HB.out.alloc HB.out.size (.cells #[.int .i64 k, .int .u64 v, .string t'] 59))
          have HC7a := Lib.hid (Kd.C_alloc HC7.out (.cells #[.int .i64 k, .int .u64 v, .string t'] 59))
          clear H7 H8 HB HC7 z0 z1 z2
          generalize (wr.alloc (.cells #[.int .i64 k, .int .u64 v, .string t'] 59)) = wa at *
          generalize wr.heap.size = K at *
          refine (PQ.ciboriumlaw01_put.calls A7 c7 L k v t' _ true wa HC7a.out hc7 (Got.put_f L k v t' (by omega) Hv.out.1 Hv.out.2 (by omega))).mono ?_
          rintro e w2 ⟨v2, rfl, hR, hb⟩
          have hR2 := Row.of_R hR
          obtain ⟨A12, c12, rfl, hc12, hC12⟩ := hR2.reads
          have H12 := Lib.hid (hR2.lower HBa.out.size)
          have HX2 := Lib.hid (HX.out.below hb HX.out.lt)
          have H82 := Lib.hid (H8a.out.below hb)
          have HB2 : Hid (Below w.heap.size w w2) := HBa.out.trans (hb.mono HBa.out.size)
          have HC72 := Lib.hid (Kd.C_below HC7a.out hb)
          have hpre : Kd.C (Kd.int .u8) w2 A12 L.length L := by
            have h2 := Kd.R_take (m := L.length) (hR2.R (fun _ => True) (fun _ _ => trivial)) (by simp)
            rw [List.take_left] at h2
            exact (Kd.R_reads' h2).2.2
          have HP := Lib.hid hpre
          have hpos := (itemL_pos k v t').1
          clear hR hR2 hb hC12 hpre HC7a HBa H8a HX
          have hM2 : (L ++ itemL k v t').length = L.length + (itemL k v t').length := List.length_append
          generalize hM : L ++ itemL k v t' = M at *
          have hgt : ¬ (M.length : Int) ≤ (L.length : Int) := by omega
          obtain ⟨i0, hi0, _, hsz0, _⟩ := info_parts Row.infoB
          have hcut := cut_to (P := Try.prog) 22 5 .i64 Try.underlying22 hi0 A12 M.length c12 (L.length : Int) (by omega) (by omega) hc12
          rw [Int.toNat_natCast] at hcut
          clear hi0 hsz0 hM2 hM
          go_wp2_with fail
          refine (PA.ciboriumref00_EqBytes.calls A12 c12 L A7 c7 L true _ HP.out (by omega) HC72.out hc7 (by unfold PA.ciboriumref00_EqBytes.f; simp)).mono ?_
          rintro e w3 ⟨rfl, n3, rfl⟩
          have H83 : Hid (Row.IsI (w2.drewN n3) w.heap.size u8 X) := H82.out
          have H123 := Lib.hid (H12.out.drewN n3)
          have HX3 := Lib.hid (HX2.out.drewN n3)
          have HB3 := Lib.hid (pw_below_drewN HB2.out n3)
          clear HP HC72 H82 H12 HX2 HB2
          generalize w2.drewN n3 = w3 at *
          have x0 : w3.cell? ⟨K, 0, none⟩ = some (.int .i64 k) := HX3.out.cell 0
          have x1 : w3.cell? ⟨K, 1, none⟩ = some (.int .u64 v) := HX3.out.cell 1
          have x2 : w3.cell? ⟨K, 2, none⟩ = some (.string t') := HX3.out.cell 2
          go_wp2_with ((with_reducible refine gate_builtin (b := .append) (xs := #[.tmp 73, .tmp 75]) rfl ?_); refine Row.appendI w.heap.size _ _ u8 (k, v, t') X rfl rfl rfl rfl rfl rfl rfl H83.out HB3.out.size (by omega) ?_; intro v5 w5 h1 h2 h3)
          have h4 := H123.out.grown h3 (fun q hq he => H83.out.apart H123.out q he.symm hq)
          have h5 : Below w.heap.size w w5 := HB3.out.trans h2
          go_roundw
          case rel => exact ⟨i + 1, by omega, by go_num, (by rw [HS.out]; exact h4), (by rw [HS2.out]; exact h1), h5⟩
          case measure => simp [intOf]; omega
        · have hT : cut t = t := by unfold cut; rw [if_neg hbig]
          rw [hT] at hts HS HS2
          go_wp2_with fail
          generalize hT' : t = t' at *
          clear hT hbig
          have hKw : w.heap.size ≤ wr.heap.size := HB.out.size
          have HX := Lib.hid (Blk.Is.new wr #[.int .i64 k, .int .u64 v, .string t'] 59)
          have H8a := Lib.hid (H8.out.alloc (.cells #[.int .i64 k, .int .u64 v, .string t'] 59))
          have HBa := Lib.hid (HB.out.alloc HB.out.size (.cells #[.int .i64 k, .int .u64 v, .string t'] 59))
          have HC7a := Lib.hid (Kd.C_alloc HC7.out (.cells #[.int .i64 k, .int .u64 v, .string t'] 59))
          clear H7 H8 HB HC7 z0 z1 z2
          generalize (wr.alloc (.cells #[.int .i64 k, .int .u64 v, .string t'] 59)) = wa at *
          generalize wr.heap.size = K at *
          refine (PQ.ciboriumlaw01_put.calls A7 c7 L k v t' _ true wa HC7a.out hc7 (Got.put_f L k v t' (by omega) Hv.out.1 Hv.out.2 (by omega))).mono ?_
          rintro e w2 ⟨v2, rfl, hR, hb⟩
          have hR2 := Row.of_R hR
          obtain ⟨A12, c12, rfl, hc12, hC12⟩ := hR2.reads
          have H12 := Lib.hid (hR2.lower HBa.out.size)
          have HX2 := Lib.hid (HX.out.below hb HX.out.lt)
          have H82 := Lib.hid (H8a.out.below hb)
          have HB2 : Hid (Below w.heap.size w w2) := HBa.out.trans (hb.mono HBa.out.size)
          have HC72 := Lib.hid (Kd.C_below HC7a.out hb)
          have hpre : Kd.C (Kd.int .u8) w2 A12 L.length L := by
            have h2 := Kd.R_take (m := L.length) (hR2.R (fun _ => True) (fun _ _ => trivial)) (by simp)
            rw [List.take_left] at h2
            exact (Kd.R_reads' h2).2.2
          have HP := Lib.hid hpre
          have hpos := (itemL_pos k v t').1
          clear hR hR2 hb hC12 hpre HC7a HBa H8a HX
          have hM2 : (L ++ itemL k v t').length = L.length + (itemL k v t').length := List.length_append
          generalize hM : L ++ itemL k v t' = M at *
          have hgt : ¬ (M.length : Int) ≤ (L.length : Int) := by omega
          obtain ⟨i0, hi0, _, hsz0, _⟩ := info_parts Row.infoB
          have hcut := cut_to (P := Try.prog) 22 5 .i64 Try.underlying22 hi0 A12 M.length c12 (L.length : Int) (by omega) (by omega) hc12
          rw [Int.toNat_natCast] at hcut
          clear hi0 hsz0 hM2 hM
          go_wp2_with fail
          refine (PA.ciboriumref00_EqBytes.calls A12 c12 L A7 c7 L true _ HP.out (by omega) HC72.out hc7 (by unfold PA.ciboriumref00_EqBytes.f; simp)).mono ?_
          rintro e w3 ⟨rfl, n3, rfl⟩
          have H83 : Hid (Row.IsI (w2.drewN n3) w.heap.size u8 X) := H82.out
          have H123 := Lib.hid (H12.out.drewN n3)
          have HX3 := Lib.hid (HX2.out.drewN n3)
          have HB3 := Lib.hid (pw_below_drewN HB2.out n3)
          clear HP HC72 H82 H12 HX2 HB2
          generalize w2.drewN n3 = w3 at *
          have x0 : w3.cell? ⟨K, 0, none⟩ = some (.int .i64 k) := HX3.out.cell 0
          have x1 : w3.cell? ⟨K, 1, none⟩ = some (.int .u64 v) := HX3.out.cell 1
          have x2 : w3.cell? ⟨K, 2, none⟩ = some (.string t') := HX3.out.cell 2
          go_wp2_with ((with_reducible refine gate_builtin (b := .append) (xs := #[.tmp 73, .tmp 75]) rfl ?_); refine Row.appendI w.heap.size _ _ u8 (k, v, t') X rfl rfl rfl rfl rfl rfl rfl H83.out HB3.out.size (by omega) ?_; intro v5 w5 h1 h2 h3)
          have h4 := H123.out.grown h3 (fun q hq he => H83.out.apart H123.out q he.symm hq)
          have h5 : Below w.heap.size w w5 := HB3.out.trans h2
          go_roundw
          case rel => exact ⟨i + 1, by omega, by go_num, (by rw [HS.out]; exact h4), (by rw [HS2.out]; exact h1), h5⟩
          case measure => simp [intOf]; omega
      · obtain rfl : i = xs.length := by omega
        clear hlt hi
        rw [List.take_length] at H7 H8
        have HC2 := Lib.hid (Kd.C_below HR2.out HB.out)
        have HC0 := Lib.hid (Kd.C_below HR0.out HB.out)
        have hLn : (flat xs).length ≤ 440000 := Nat.le_trans (flat_len xs) (by omega)
        have H8' := Lib.hid H8.out
        clear HV1 HB1
        go_wp2_with (refine Row.appendRow w.heap.size _ _ u7 (l0 ++ flat xs) A2 l2.length c2 l2 rfl rfl rfl rfl rfl H7.out HC2.out HB.out.size (by rw [List.length_append]; omega) ?_; intro v2 w2 h1 h2 h3 h4; obtain ⟨A, c, rfl, hlc, hC⟩ := h1.reads)
        have HB2 : Hid (Below w.heap.size w w2) := HB.out.trans h2
        have HC := Lib.hid hC
        have H82 : Hid (Row.IsI w2 w.heap.size u8 (xs.map cutI)) := H8.out.move (fun k hk => h3.block k (H8.out.lt k hk).2 (fun e => H8.out.apart H7.out k hk e.symm))
        clear hC h1 h2 h3 h4 H7 H8 H8' HB HC0 HC2
        go_wp2_with fail
        have hread := Reader.Read_calls A c ((l0 ++ flat xs) ++ l2) w2 HC.out (by rw [List.length_append, List.length_append]; omega)
        rw [show ((l0 ++ flat xs) ++ l2).length = l0.length + ((flat xs).length + l2.length) by rw [List.length_append, List.length_append, Nat.add_assoc]] at hread
        refine hread.mono ?_
        clear hread
        rintro e w3 ⟨g, A3, c3, rfl, hI3, hb⟩
        have HB3 : Hid (Below w.heap.size w w3) := HB2.out.trans (hb.mono HB2.out.size)
        have hg : w.heap.size ≤ g := Nat.le_trans HB2.out.size hI3.base
        have H83 := Lib.hid (H82.out.below hb)
        have hg8 : Hid (∀ k, u8.ownBlock = some k → k ≠ g) := fun k hk he => by have := (H82.out.lt k hk).2; have := hI3.base; omega
        have H3 := Lib.hid (hI3.lower HB2.out.size)
        clear hI3 hb HC HB2 H82 hlc
        have hs0 : Before ⟨(l0 ++ flat xs) ++ l2, 0, 0⟩ l0 (flat xs ++ l2) := ⟨rfl, Nat.zero_le _, by rw [List.append_assoc]; rfl⟩
        obtain ⟨e1, e2, -⟩ := hs0.take (l0.length : Int) rfl
        have HRaw := Lib.hid (Reader.Raw_calls g w.heap.size A3 c3 _ (l0.length : Int) w3 H3.out (by omega) (by omega) (by show ((l0 ++ flat xs) ++ l2).length ≤ _; rw [List.length_append, List.length_append]; omega))
        rw [e1, e2, show ({ (⟨(l0 ++ flat xs) ++ l2, 0, 0⟩ : Reader.St) with at_ := 0 + l0.length } : Reader.St) = at_ l0 xs l2 0 by unfold at_; rw [Nat.zero_add]; rfl] at HRaw
        clear e1 e2 hs0
        go_wp2_with fail
        refine HRaw.out.mono ?_
        rintro e w4 ⟨v4, rfl, hR4, hI4, hO4⟩
        obtain ⟨A4, c4, rfl, hc4, hC4⟩ := hR4.reads
        have HB4 : Hid (Below w.heap.size w w4) := hO4.step HB3.out hg (Nat.le_refl _)
        have H84 : Hid (Row.IsI w4 w.heap.size u8 (xs.map cutI)) := H83.out.move (fun k hk => hO4.block k (H83.out.lt k hk).2 (hg8.out k hk))
        have H4 := Lib.hid hI4
        have HC4 := Lib.hid hC4
        have HC04 := Lib.hid (Kd.C_below HR0.out HB4.out)
        clear hR4 hI4 hO4 hC4 HRaw H3 HB3 H83
        go_wp2_with fail
        refine (PA.ciboriumref00_EqBytes.calls A4 c4 l0 A0 c0 l0 true _ HC4.out hc4 HC04.out hc0 (by unfold PA.ciboriumref00_EqBytes.f; simp)).mono ?_
        rintro e w5 ⟨rfl, n5, rfl⟩
        have H5 := Lib.hid (H4.out.drewN n5)
        have H85 : Hid (Row.IsI (w4.drewN n5) w.heap.size u8 (xs.map cutI)) := H84.out
        have HB5 := Lib.hid (pw_below_drewN HB4.out n5)
        clear HC4 HC04 HR0 H4 H84 HB4 hc4
        generalize w4.drewN n5 = w5 at *
        have hsh : ∃ A8 c8, u8 = .slice A8 xs.length c8 ∧ xs.length ≤ c8 := by
          rcases H85.out.shape with ⟨e, h0⟩ | ⟨g8, c8, e, h1, _⟩
          · have : xs.length = 0 := by have := congrArg List.length h0; simpa using this
            exact ⟨none, 0, by rw [this]; exact e, by omega⟩
          · rw [List.length_map] at e h1
            exact ⟨_, c8, e, h1⟩
        obtain ⟨A8, c8, rfl, hc8⟩ := hsh
        go_wp2_with fail
        go_loopw [15] (fun v15 wr => ∃ i : Nat, i ≤ xs.length ∧ v15 = .int .i64 (i : Int) ∧ Hid (Reader.Is wr w.heap.size g A3 c3 (at_ l0 xs l2 i)) ∧ Hid (Row.IsI wr w.heap.size (.slice A8 xs.length c8) (xs.map cutI)) ∧ Hid (Below w.heap.size w wr)) (fun v15 _ => 200 - (intOf v15).toNat)
        case atStart => exact ⟨0, by omega, rfl, H5, H85, HB5⟩
        case round =>
          obtain ⟨i, hi, rfl, HG, H8, HB⟩ := hrel
          by_cases hlt : i < xs.length
          · rcases H8.out.shape with ⟨_, h0⟩ | ⟨g8, c8', e, -, -, -, hcell⟩
            · have : xs.length = 0 := by have := congrArg List.length h0; simpa using this
              omega
            obtain ⟨rfl, -, -⟩ := Value.slice.inj e
            clear e
            obtain ⟨x0, x1, x2⟩ := hcell i (by simpa using hlt)
            rw [List.getElem_map] at x0 x1 x2
            have hv := HXW.out _ (List.getElem_mem hlt)
            have HGOT := Lib.hid (Got.got_item g _ A3 c3 _ xs[i].1 xs[i].2.1 (cut xs[i].2.2) wr HG.out _ (at_before l0 xs l2 i hlt) hv.1 hv.2 (by have := cut_size xs[i].2.2; omega))
            rw [at_on l0 xs l2 i hlt] at HGOT
            change wr.cell? ⟨g8, i * 3, none⟩ = some (.int .i64 xs[i].1) at x0
            change wr.cell? ⟨g8, i * 3 + 1, none⟩ = some (.int .u64 xs[i].2.1) at x1
            change wr.cell? ⟨g8, i * 3 + 2, none⟩ = some (.string (cut xs[i].2.2)) at x2
            generalize xs[i].1 = k at *
            generalize xs[i].2.1 = v at *
            generalize cut xs[i].2.2 = t at *
            clear hcell hv
            go_wp2_with fail
            refine HGOT.out.mono ?_
            rintro e w6 ⟨rfl, hI6, hO6⟩
            have HB6 : Hid (Below w.heap.size w w6) := hO6.step HB.out hg (Nat.le_refl _)
            have H86 : Hid (Row.IsI w6 w.heap.size _ (xs.map cutI)) := H8.out.move (fun k hk => hO6.block k (H8.out.lt k hk).2 (hg8.out k hk))
            have H6 := Lib.hid hI6
            clear hI6 hO6 HGOT HG H8 HB x0 x1 x2
            go_wp2_with fail
            refine (Reader.Err_calls g _ A3 c3 _ w6 H6.out).mono ?_
            rintro e w7 ⟨rfl, rfl⟩
            rw [show (at_ l0 xs l2 (i + 1)).e = 0 from rfl]
            go_wp2_with fail
            go_roundw
            case rel => exact ⟨i + 1, by omega, by go_num, H6, H86, HB6⟩
            case measure => simp [intOf]; omega
          · obtain rfl : i = xs.length := by omega
            clear H8 HXW HI
            have hat := at_end l0 xs l2
            have HG' := Lib.hid HG.out
            go_wp2_with fail
            refine (Reader.Left_calls g _ A3 c3 _ _ HG.out).mono ?_
            rintro e w6 ⟨rfl, n6, rfl⟩
            rw [hat.1]
            have H6 := Lib.hid (HG.out.drewN n6)
            have HB6 := Lib.hid (pw_below_drewN HB.out n6)
            clear HG HG' HB H5 HB5
            generalize wr.drewN n6 = w6 at *
            go_wp2_with fail
            refine (Reader.Left_calls g _ A3 c3 _ _ H6.out).mono ?_
            rintro e w7 ⟨rfl, n7, rfl⟩
            rw [hat.1]
            have H7 := Lib.hid (H6.out.drewN n7)
            have HB7 := Lib.hid (pw_below_drewN HB6.out n7)
            clear H6 HB6
            generalize w6.drewN n7 = w7 at *
            obtain ⟨e1, e2, -⟩ := hat.2.take (l2.length : Int) rfl
            have HRaw := Lib.hid (Reader.Raw_calls g w.heap.size A3 c3 _ (l2.length : Int) w7 H7.out (by omega) (by omega) (by show ((l0 ++ flat xs) ++ l2).length ≤ _; rw [List.length_append, List.length_append]; omega))
            rw [e1, e2] at HRaw
            clear e1 e2
            go_wp2_with fail
            refine HRaw.out.mono ?_
            rintro e w8 ⟨v8, rfl, hR8, hI8, hO8⟩
            obtain ⟨A9, c9, rfl, hc9, hC9⟩ := hR8.reads
            have HB8 : Hid (Below w.heap.size w w8) := hO8.step HB7.out hg (Nat.le_refl _)
            have H8 := Lib.hid hI8
            have HC9 := Lib.hid hC9
            have HC28 := Lib.hid (Kd.C_below HR2.out HB8.out)
            clear hR8 hI8 hO8 hC9 HRaw H7 HB7
            go_wp2_with fail
            refine (PA.ciboriumref00_EqBytes.calls A9 c9 l2 A2 c2 l2 true _ HC9.out hc9 HC28.out hc2 (by unfold PA.ciboriumref00_EqBytes.f; simp)).mono ?_
            rintro e w9 ⟨rfl, n9, rfl⟩
            have H9 := Lib.hid (H8.out.drewN n9)
            have HB9 := Lib.hid (pw_below_drewN HB8.out n9)
            clear HC9 HC28 H8 HB8
            generalize w8.drewN n9 = w9 at *
            go_wp2_with fail
            refine (Reader.Err_calls g _ A3 c3 _ w9 H9.out).mono ?_
            rintro e w10 ⟨rfl, rfl⟩
            rw [show ({ at_ l0 xs l2 xs.length with at_ := (at_ l0 xs l2 xs.length).at_ + l2.length } : Reader.St).e = 0 from rfl]
            go_wp2_with fail
            refine (Works.works _).mono ?_
            rintro e w11 ⟨rfl, hb⟩
            have HB11 : Hid (Below w.heap.size w w11) := HB9.out.trans (hb.mono HB9.out.size)
            clear hb HB9
            go_wp2
            go_ret
            exact ⟨rfl, HB11.out⟩
end Go.Proofs.Ytengdchgfhcdhaa.HOctetBack
