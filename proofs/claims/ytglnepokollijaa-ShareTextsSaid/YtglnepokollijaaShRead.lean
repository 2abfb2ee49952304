/- What is said here: share.Read, and the document's Read: a share out of digits, or the error. -/
import Derived.Test.YtglnepokollijaaPureTexts
import Derived.Test.YtglnepokollijaaCut3
import Derived.Test.YtglnepokollijaaRow
import Derived.Test.YtglnepokollijaaBlk
import Derived.Laws.ResultCell
import Derived.Outline
import Derived.LoopTactic
import Derived.Deep.RegionHeld3
import Derived.BigQuiet
import Derived.Deep.QuietTactic
namespace Go.Proofs.Ytglnepokollijaa.ShRead
set_option linter.unusedVariables false
set_option linter.unusedSimpArgs false
open Go.RowKit Go.Proofs.YtglnepokollijaaW.PrintWords Go.Proofs.YtglnepokollijaaW.PrintLast Go.Proofs.YtglnepokollijaaW.PrintMore
open PureTexts

/-- What a Read leaves. -/
def Post (w : World) (x : Int) (ys : List Int) (e : Int) (en : Ending) (w' : World) : Prop := ∃ (A : Option Addr) (c : Nat), en = .returned (.tuple #[.agg #[.int .u8 x, .slice A ys.length c], .int .i64 e]) ∧ ys.length ≤ c ∧ Kd.C (Kd.int .u8) w' A ys.length ys ∧ Below w.heap.size w w'
theorem C_nil (W : World) : Kd.C (Kd.int .u8) W none ([] : List Int).length [] := ⟨rfl, by simp, fun h => absurd h (by simp)⟩
/-- A result in a cell, and one in a slot. -/
theorem ret_cell {fn : Func} {p u : Tmp} {W : World} {g : Nat} {cs : Array Value} {R : Ending → World → Prop} {a : Act} (h : fn.results = #[.cell p 44, .tmp u]) (hp : a.tmps.getD p undef = .pointer (some ⟨g, 0, none⟩)) (hI : Blk.Is W g cs 44) (hs : cs.size = 2) (hd : a.defers = []) (hR : R (.returned (.tuple #[.agg cs, a.tmps.getD u undef])) W) : bodyPost Try.prog fn R .ret a W := by
  refine bodyPost_ret (v := .tuple #[.agg cs, a.tmps.getD u undef]) ?_ hd hR
  rw [results_cell_tmp h, hp]
  have hi : (Try.prog.info? 44).map (·.size) = some cs.size := by rw [hs]; kernel_rfl
  have := run_loadVar_row W g 44 44 cs (0, 0) _ hI Try.underlying44 rfl hi
  simp [asAddr, this, Result.andThen]
theorem infoB : (Try.prog.info? 5).map (fun i => (i.zero, i.size, i.bytes)) = some (some (.int .u8 0), 1, 1) := by kernel_rfl

set_option maxHeartbeats 2000000 in
theorem read_err (t : ByteArray) (l : List Int) (e : Int) (K : Nat) (w : World) (h : PA.octet_Unhex.f K t = some (l, e)) (he : e ≠ 0) :
    Calls Try.prog 31 #[.string t] w (Post w 0 [] e) := by
  have HU := Lib.hid h
  have hez : (e != 0) = true := bne_iff_ne.mpr he
  clear he
  clear h
  have HG := Lib.hid (Blk.Is.new w #[.int .u8 0, .slice none 0 0] 44)
  have HB0 : Hid (Below w.heap.size w (w.alloc (.cells #[.int .u8 0, .slice none 0 0] 44))) := (Below.refl w.heap.size w).alloc (Nat.le_refl _) _
  go_enter Try.func31, Try.ntmps31
  go_wp2_with fail
  refine (PA.octet_Unhex.calls K t l e _ HU.out).mono ?_
  rintro en w1 ⟨v4, rfl, hR, hb⟩
  obtain ⟨A4, c4, rfl, hc4, hC4⟩ := (Row.of_R hR).reads
  have HI := Lib.hid (Row.of_R hR)
  have HG1 := Lib.hid (HG.out.below hb HG.out.lt)
  have HB1 : Hid (Below w.heap.size w w1) := HB0.out.trans (hb.mono HB0.out.size)
  have x0 := HG1.out.cell 0
  have x1 := HG1.out.cell 1
  have y0 := HG1.out.free 0
  have y1 := HG1.out.free 1
  clear hR hb hC4 HG HB0 HU HI
  go_wp2
  exact ret_cell rfl rfl ((HG1.out.set 0 _).set 1 _) rfl rfl ⟨none, 0, rfl, Nat.le_refl _, C_nil _, (HB1.out.setCell (Nat.le_refl _) _).setCell (Nat.le_refl _) _⟩

set_option maxHeartbeats 2000000 in
theorem read_nil (t : ByteArray) (l : List Int) (e : Int) (K : Nat) (w : World) (h : PA.octet_Unhex.f K t = some (l, e)) (he : e = 0) (hl : l.length = 0) :
    Calls Try.prog 31 #[.string t] w (Post w 0 [] 10) := by
  have HU := Lib.hid h
  subst he
  clear h
  have HG := Lib.hid (Blk.Is.new w #[.int .u8 0, .slice none 0 0] 44)
  have HB0 : Hid (Below w.heap.size w (w.alloc (.cells #[.int .u8 0, .slice none 0 0] 44))) := (Below.refl w.heap.size w).alloc (Nat.le_refl _) _
  go_enter Try.func31, Try.ntmps31
  go_wp2_with fail
  refine (PA.octet_Unhex.calls K t l 0 _ HU.out).mono ?_
  rintro en w1 ⟨v4, rfl, hR, hb⟩
  obtain ⟨A4, c4, rfl, hc4, hC4⟩ := (Row.of_R hR).reads
  have HI := Lib.hid (Row.of_R hR)
  have HG1 := Lib.hid (HG.out.below hb HG.out.lt)
  have HB1 : Hid (Below w.heap.size w w1) := HB0.out.trans (hb.mono HB0.out.size)
  have x0 := HG1.out.cell 0
  have x1 := HG1.out.cell 1
  have y0 := HG1.out.free 0
  have y1 := HG1.out.free 1
  clear hR hb hC4 HG HB0 HU HI
  go_wp2
  exact ret_cell rfl rfl ((HG1.out.set 0 _).set 1 _) rfl rfl ⟨none, 0, rfl, Nat.le_refl _, C_nil _, (HB1.out.setCell (Nat.le_refl _) _).setCell (Nat.le_refl _) _⟩

set_option maxHeartbeats 2000000 in
theorem read_zero (t : ByteArray) (l : List Int) (e : Int) (K : Nat) (w : World) (h : PA.octet_Unhex.f K t = some (l, e)) (he : e = 0) (hl : 0 < l.length) (hm : l.length ≤ 1000000) (h0 : l.getD 0 0 = 0) :
    Calls Try.prog 31 #[.string t] w (Post w 0 [] 40) := by
  have HU := Lib.hid h
  subst he
  clear h
  have HG := Lib.hid (Blk.Is.new w #[.int .u8 0, .slice none 0 0] 44)
  have HB0 : Hid (Below w.heap.size w (w.alloc (.cells #[.int .u8 0, .slice none 0 0] 44))) := (Below.refl w.heap.size w).alloc (Nat.le_refl _) _
  go_enter Try.func31, Try.ntmps31
  go_wp2_with fail
  refine (PA.octet_Unhex.calls K t l 0 _ HU.out).mono ?_
  rintro en w1 ⟨v4, rfl, hR, hb⟩
  obtain ⟨A4, c4, rfl, hc4, hC4⟩ := (Row.of_R hR).reads
  have HI := Lib.hid (Row.of_R hR)
  have HG1 := Lib.hid (HG.out.below hb HG.out.lt)
  have HB1 : Hid (Below w.heap.size w w1) := HB0.out.trans (hb.mono HB0.out.size)
  have x0 := HG1.out.cell 0
  have x1 := HG1.out.cell 1
  have y0 := HG1.out.free 0
  have y1 := HG1.out.free 1
  obtain ⟨g, rfl, _⟩ := HI.out.head (by omega)
  have hx := (HI.out.cell 0 (by omega)).1
  rw [h0] at hx
  clear hR hb hC4 HG HB0 HU HI
  go_wp2
  exact ret_cell rfl rfl ((HG1.out.set 0 _).set 1 _) rfl rfl ⟨none, 0, rfl, Nat.le_refl _, C_nil _, (HB1.out.setCell (Nat.le_refl _) _).setCell (Nat.le_refl _) _⟩

set_option maxHeartbeats 2000000 in
theorem read_long (t : ByteArray) (l : List Int) (e : Int) (K : Nat) (w : World) (h : PA.octet_Unhex.f K t = some (l, e)) (he : e = 0) (hl : 1025 < l.length) (hm : l.length ≤ 1000000) (h0 : l.getD 0 0 ≠ 0) :
    Calls Try.prog 31 #[.string t] w (Post w 0 [] 3) := by
  have HU := Lib.hid h
  subst he
  have hz : (l.getD 0 0 == 0) = false := beq_eq_false_iff_ne.mpr h0
  generalize hy : l.getD 0 0 = y at *
  clear h
  have HG := Lib.hid (Blk.Is.new w #[.int .u8 0, .slice none 0 0] 44)
  have HB0 : Hid (Below w.heap.size w (w.alloc (.cells #[.int .u8 0, .slice none 0 0] 44))) := (Below.refl w.heap.size w).alloc (Nat.le_refl _) _
  go_enter Try.func31, Try.ntmps31
  go_wp2_with fail
  refine (PA.octet_Unhex.calls K t l 0 _ HU.out).mono ?_
  rintro en w1 ⟨v4, rfl, hR, hb⟩
  obtain ⟨A4, c4, rfl, hc4, hC4⟩ := (Row.of_R hR).reads
  have HI := Lib.hid (Row.of_R hR)
  have HG1 := Lib.hid (HG.out.below hb HG.out.lt)
  have HB1 : Hid (Below w.heap.size w w1) := HB0.out.trans (hb.mono HB0.out.size)
  have x0 := HG1.out.cell 0
  have x1 := HG1.out.cell 1
  have y0 := HG1.out.free 0
  have y1 := HG1.out.free 1
  obtain ⟨g, rfl, _⟩ := HI.out.head (by omega)
  have hx := (HI.out.cell 0 (by omega)).1
  rw [hy] at hx
  clear hy h0
  clear hR hb hC4 HG HB0 HU HI
  go_wp2
  exact ret_cell rfl rfl ((HG1.out.set 0 _).set 1 _) rfl rfl ⟨none, 0, rfl, Nat.le_refl _, C_nil _, (HB1.out.setCell (Nat.le_refl _) _).setCell (Nat.le_refl _) _⟩

set_option maxHeartbeats 2000000 in
theorem read_good (t : ByteArray) (l : List Int) (e : Int) (K : Nat) (w : World) (h : PA.octet_Unhex.f K t = some (l, e)) (he : e = 0) (hl : 0 < l.length) (hm : l.length ≤ 1025) (h0 : l.getD 0 0 ≠ 0) :
    Calls Try.prog 31 #[.string t] w (Post w (l.getD 0 0) (l.drop 1) 0) := by
  have HU := Lib.hid h
  subst he
  have hz : (l.getD 0 0 == 0) = false := beq_eq_false_iff_ne.mpr h0
  generalize hy : l.getD 0 0 = y at *
  clear h
  have HG := Lib.hid (Blk.Is.new w #[.int .u8 0, .slice none 0 0] 44)
  have HB0 : Hid (Below w.heap.size w (w.alloc (.cells #[.int .u8 0, .slice none 0 0] 44))) := (Below.refl w.heap.size w).alloc (Nat.le_refl _) _
  go_enter Try.func31, Try.ntmps31
  go_wp2_with fail
  refine (PA.octet_Unhex.calls K t l 0 _ HU.out).mono ?_
  rintro en w1 ⟨v4, rfl, hR, hb⟩
  obtain ⟨A4, c4, rfl, hc4, hC4⟩ := (Row.of_R hR).reads
  have HI := Lib.hid (Row.of_R hR)
  have HG1 := Lib.hid (HG.out.below hb HG.out.lt)
  have HB1 : Hid (Below w.heap.size w w1) := HB0.out.trans (hb.mono HB0.out.size)
  have x0 := HG1.out.cell 0
  have x1 := HG1.out.cell 1
  have y0 := HG1.out.free 0
  have y1 := HG1.out.free 1
  obtain ⟨g, rfl, hgb⟩ := HI.out.head (by omega)
  have hne : Hid (g ≠ w.heap.size) := fun e => by have h2 : w.heap.size < (w.alloc (.cells #[.int .u8 0, .slice none 0 0] 44)).heap.size := by simp
                                                  omega
  clear hgb
  have hx := (HI.out.cell 0 (by omega)).1
  rw [hy] at hx
  clear hy h0
  obtain ⟨i0, hi0, _, hsz0, _⟩ := info_parts infoB
  obtain ⟨A2, hcut, hC2, hcc⟩ := Cut3.mid3_of (P := Try.prog) (Value.int .u8) (0 : Int) 22 5 .i64 .i64 .i64 Try.underlying22 hi0 hsz0 (some ⟨g, 0, none⟩) c4 l 1 (l.length : Int) (by omega) (by omega) (by omega) hc4
  have hln : (l.drop 1).length = l.length - 1 := List.length_drop
  rw [Int.toNat_natCast, show (1 : Int).toNat = 1 from rfl, List.take_length, hln] at hcut
  rw [Int.toNat_natCast, show (1 : Int).toNat = 1 from rfl, List.take_length, hln] at hcc
  have HA2 : Hid (∀ W, Kd.C (Kd.int .u8) W (some ⟨g, 0, none⟩) l.length l → Kd.C (Kd.int .u8) W A2 (l.length - 1) (l.drop 1)) := fun W hW => by
    have h2 := hC2 W (Kd.reads_of_C (d := (0 : Int)) hW)
    rw [Int.toNat_natCast, show (1 : Int).toNat = 1 from rfl, List.take_length, hln] at h2
    exact Kd.C_of_reads (d := (0 : Int)) (h1 := fun _ => rfl) h2
  have HLn := Lib.hid hln
  clear hC2 hln hi0 hsz0
  clear hR hb hC4 HG HB0 HU
  go_wp2_with fail
  -- region 10 read
  refine start_ (n := 12) (S := fun w' => w'.cell? ⟨g, 0, none⟩ = some (.int .u8 y)) (ds := [10]) #[false, false, false, false, false, false, false, false, false, false, false, false] (by kernel_rfl) rfl rfl (hx) (fun hHeld => ?_)
  have HG2 := Lib.hid (HG1.out.drewN 1)
  have HI2 := Lib.hid (HI.out.drewN 1)
  have HB2 := Lib.hid (pw_below_drewN HB1.out 1)
  clear HG1 HI HB1
  change Hid (Blk.Is w1.drew _ _ _) at HG2
  change Hid (Row.Is w1.drew _ _ _) at HI2
  change Hid (Below _ _ w1.drew) at HB2
  generalize w1.drew = w2 at *
  refine pure_ (i := 0) (N := some 31) (v := ?_) (a' := ?_) #[true, false, false, false, false, false, false, false, false, false, false, false] rfl rfl (by kernel_rfl) (fun _ _ _ h => h) (Or.inl ⟨by rfl, ?_⟩) ?_ ?_
  rotate_left
  · intro w'
    go_simp
    with_reducible rfl
  rotate_left
  · simp only [Act.put, List.setIfInBounds_toArray, List.set_cons_zero, List.set_cons_succ, i64_w, i32_w]
    rfl
  refine pure_ (i := 1) (N := some 32) (v := ?_) (a' := ?_) #[true, true, false, false, false, false, false, false, false, false, false, false] rfl rfl (by kernel_rfl) (fun _ _ _ h => h) (Or.inl ⟨by rfl, ?_⟩) ?_ ?_
  rotate_left
  · intro w'
    go_simp
    with_reducible rfl
  rotate_left
  · simp only [Act.put, List.setIfInBounds_toArray, List.set_cons_zero, List.set_cons_succ, i64_w, i32_w]
    rfl
  refine pure_ (i := 3) (N := some 34) (v := ?_) (a' := ?_) #[true, true, false, true, false, false, false, false, false, false, false, false] rfl rfl (by kernel_rfl) (fun _ _ _ h => h) (Or.inl ⟨by rfl, ?_⟩) ?_ ?_
  rotate_left
  · intro w'
    go_simp
    with_reducible rfl
  rotate_left
  · simp only [Act.put, List.setIfInBounds_toArray, List.set_cons_zero, List.set_cons_succ, i64_w, i32_w]
    rfl
  refine pure_ (i := 4) (N := some 35) (v := ?_) (a' := ?_) #[true, true, false, true, true, false, false, false, false, false, false, false] rfl rfl (by kernel_rfl) (fun _ _ _ h => h) (Or.inl ⟨by rfl, ?_⟩) ?_ ?_
  rotate_left
  · intro w'
    go_simp
    with_reducible rfl
  rotate_left
  · simp only [Act.put, List.setIfInBounds_toArray, List.set_cons_zero, List.set_cons_succ, i64_w, i32_w]
    rfl
  refine pure_ (i := 5) (N := some 36) (v := ?_) (a' := ?_) #[true, true, false, true, true, true, false, false, false, false, false, false] rfl rfl (by kernel_rfl) (fun _ _ _ h => h) (Or.inl ⟨by rfl, ?_⟩) ?_ ?_
  rotate_left
  · intro w'
    go_simp
    with_reducible rfl
  rotate_left
  · simp only [Act.put, List.setIfInBounds_toArray, List.set_cons_zero, List.set_cons_succ, i64_w, i32_w]
    rfl
  refine pure_ (i := 6) (N := some 37) (v := ?_) (a' := ?_) #[true, true, false, true, true, true, true, false, false, false, false, false] rfl rfl (by kernel_rfl) (fun _ _ _ h => h) (Or.inl ⟨by rfl, ?_⟩) ?_ ?_
  rotate_left
  · intro w'
    go_simp
    with_reducible rfl
  rotate_left
  · simp only [Act.put, List.setIfInBounds_toArray, List.set_cons_zero, List.set_cons_succ, i64_w, i32_w]
    rfl
  refine pure_ (i := 7) (N := some 38) (v := ?_) (a' := ?_) #[true, true, false, true, true, true, true, true, false, false, false, false] rfl rfl (by kernel_rfl) (fun _ _ _ h => h) (Or.inl ⟨by rfl, ?_⟩) ?_ ?_
  rotate_left
  · intro w'
    go_simp
    with_reducible rfl
  rotate_left
  · simp only [Act.put, List.setIfInBounds_toArray, List.set_cons_zero, List.set_cons_succ, i64_w, i32_w]
    rfl
  refine pure_ (i := 8) (N := some 39) (v := ?_) (a' := ?_) #[true, true, false, true, true, true, true, true, true, false, false, false] rfl rfl (by kernel_rfl) (fun _ _ _ h => h) (Or.inl ⟨by rfl, ?_⟩) ?_ ?_
  rotate_left
  · intro w'
    go_simp
    with_reducible rfl
  rotate_left
  · simp only [Act.put, List.setIfInBounds_toArray, List.set_cons_zero, List.set_cons_succ, i64_w, i32_w]
    rfl
  refine take_ (i := 2) (N := some 33) (v := ?_) (a' := ?_) #[true, true, true, true, true, true, true, true, true, false, false, false] rfl rfl (by kernel_rfl) (fun _ _ _ h => h) (Or.inl ⟨by rfl, ?_⟩) hHeld ?_ ?_
  rotate_left
  · intro w' s0
    go_simp
    with_reducible rfl
  rotate_left
  · simp only [Act.put, List.setIfInBounds_toArray, List.set_cons_zero, List.set_cons_succ, i64_w, i32_w]
    rfl
  refine pure_ (i := 9) (N := some 40) (v := ?_) (a' := ?_) #[true, true, true, true, true, true, true, true, true, true, false, false] rfl rfl (by kernel_rfl) (fun _ _ _ h => h) (Or.inl ⟨by rfl, ?_⟩) ?_ ?_
  rotate_left
  · intro w'
    go_simp
    with_reducible rfl
  rotate_left
  · simp only [Act.put, List.setIfInBounds_toArray, List.set_cons_zero, List.set_cons_succ, i64_w, i32_w]
    rfl
  refine last_ (i := 10) (N := none) #[true, true, true, true, true, true, true, true, true, true, true, false] rfl rfl (by kernel_rfl) (by decide) (fun K hK => ?_)
  have z0 := HG2.out.cell 0
  have z1 := HG2.out.cell 1
  have f0 := HG2.out.free 0
  have f1 := HG2.out.free 1
  refine skip_ (w1 := ?_) (by rfl) rfl ?_ ?_
  rotate_left
  · go_simp
    rfl
  refine hK.out _ _ ?_
  clear hK K
  refine pure_ (i := 11) (N := some 3) (v := ?_) (a' := ?_) #[true, true, true, true, true, true, true, true, true, true, true, true] rfl rfl (by kernel_rfl) (fun _ _ _ h => h) (Or.inl ⟨by rfl, ?_⟩) ?_ ?_
  rotate_left
  · intro w'
    go_simp
    with_reducible rfl
  rotate_left
  · simp only [Act.put, List.setIfInBounds_toArray, List.set_cons_zero, List.set_cons_succ, i64_w, i32_w]
    rfl
  refine done_ (by kernel_rfl) ?_
  -- behind it read
  go_wp2
  refine ret_cell rfl rfl ((HG2.out.set 0 _).set 1 _) rfl rfl ⟨A2, l.length - 1, ?_, ?_, ?_, (HB2.out.setCell (Nat.le_refl _) _).setCell (Nat.le_refl _) _⟩
  · rw [HLn.out]; rfl
  · rw [HLn.out]; exact hcc
  · rw [HLn.out]
    exact HA2.out _ ((HI2.out.other (fun e => hne.out (by simpa [Value.ownBlock] using e)) _).other (fun e => hne.out (by simpa [Value.ownBlock] using e)) _).reads'.2.2

theorem read_calls (t : ByteArray) (l : List Int) (e : Int) (K : Nat) (w : World) (h : PA.octet_Unhex.f K t = some (l, e)) (hl : l.length ≤ 1000000) :
    Calls Try.prog 31 #[.string t] w (Post w (readX l e) (readY l e) (readE l e)) := by
  unfold readX readY readE
  by_cases h1 : e = 0
  · rw [if_neg (show ¬ (e ≠ 0) from fun h => h h1), if_neg (show ¬ (e ≠ 0) from fun h => h h1), if_neg (show ¬ (e ≠ 0) from fun h => h h1)]
    by_cases h2 : l.length = 0
    · rw [if_pos h2, if_pos h2, if_pos h2]
      exact read_nil t l e K w h h1 h2
    · rw [if_neg h2, if_neg h2, if_neg h2]
      by_cases h3 : l.getD 0 0 = 0
      · rw [if_pos h3, if_pos h3, if_pos h3]
        exact read_zero t l e K w h h1 (by omega) hl h3
      · rw [if_neg h3, if_neg h3, if_neg h3]
        by_cases h4 : 1025 < l.length
        · rw [if_pos h4, if_pos h4, if_pos h4]
          exact read_long t l e K w h h1 h4 hl h3
        · rw [if_neg h4, if_neg h4, if_neg h4]
          exact read_good t l e K w h h1 (by omega) (by omega) h3
  · rw [if_pos h1, if_pos h1, if_pos h1]
    exact read_err t l e K w h h1

set_option maxHeartbeats 2000000 in
theorem refRead_err (t : ByteArray) (l : List Int) (e : Int) (K : Nat) (w : World) (h : PU.ciboriumref01_Unhex.f K t = some (l, e)) (he : e ≠ 0) :
    Calls Try.prog 32 #[.string t] w (Post w 0 [] e) := by
  have HU := Lib.hid h
  have hez : (e != 0) = true := bne_iff_ne.mpr he
  clear he
  clear h
  have HG := Lib.hid (Blk.Is.new w #[.int .u8 0, .slice none 0 0] 44)
  have HB0 : Hid (Below w.heap.size w (w.alloc (.cells #[.int .u8 0, .slice none 0 0] 44))) := (Below.refl w.heap.size w).alloc (Nat.le_refl _) _
  go_enter Try.func32, Try.ntmps32
  go_wp2_with fail
  refine (PU.ciboriumref01_Unhex.calls K t l e _ HU.out).mono ?_
  rintro en w1 ⟨v4, rfl, hR, hb⟩
  obtain ⟨A4, c4, rfl, hc4, hC4⟩ := (Row.of_R hR).reads
  have HI := Lib.hid (Row.of_R hR)
  have HG1 := Lib.hid (HG.out.below hb HG.out.lt)
  have HB1 : Hid (Below w.heap.size w w1) := HB0.out.trans (hb.mono HB0.out.size)
  have x0 := HG1.out.cell 0
  have x1 := HG1.out.cell 1
  have y0 := HG1.out.free 0
  have y1 := HG1.out.free 1
  clear hR hb hC4 HG HB0 HU HI
  go_wp2
  exact ret_cell rfl rfl ((HG1.out.set 0 _).set 1 _) rfl rfl ⟨none, 0, rfl, Nat.le_refl _, C_nil _, (HB1.out.setCell (Nat.le_refl _) _).setCell (Nat.le_refl _) _⟩

set_option maxHeartbeats 2000000 in
theorem refRead_nil (t : ByteArray) (l : List Int) (e : Int) (K : Nat) (w : World) (h : PU.ciboriumref01_Unhex.f K t = some (l, e)) (he : e = 0) (hl : l.length = 0) :
    Calls Try.prog 32 #[.string t] w (Post w 0 [] 10) := by
  have HU := Lib.hid h
  subst he
  clear h
  have HG := Lib.hid (Blk.Is.new w #[.int .u8 0, .slice none 0 0] 44)
  have HB0 : Hid (Below w.heap.size w (w.alloc (.cells #[.int .u8 0, .slice none 0 0] 44))) := (Below.refl w.heap.size w).alloc (Nat.le_refl _) _
  go_enter Try.func32, Try.ntmps32
  go_wp2_with fail
  refine (PU.ciboriumref01_Unhex.calls K t l 0 _ HU.out).mono ?_
  rintro en w1 ⟨v4, rfl, hR, hb⟩
  obtain ⟨A4, c4, rfl, hc4, hC4⟩ := (Row.of_R hR).reads
  have HI := Lib.hid (Row.of_R hR)
  have HG1 := Lib.hid (HG.out.below hb HG.out.lt)
  have HB1 : Hid (Below w.heap.size w w1) := HB0.out.trans (hb.mono HB0.out.size)
  have x0 := HG1.out.cell 0
  have x1 := HG1.out.cell 1
  have y0 := HG1.out.free 0
  have y1 := HG1.out.free 1
  clear hR hb hC4 HG HB0 HU HI
  go_wp2
  exact ret_cell rfl rfl ((HG1.out.set 0 _).set 1 _) rfl rfl ⟨none, 0, rfl, Nat.le_refl _, C_nil _, (HB1.out.setCell (Nat.le_refl _) _).setCell (Nat.le_refl _) _⟩

set_option maxHeartbeats 2000000 in
theorem refRead_zero (t : ByteArray) (l : List Int) (e : Int) (K : Nat) (w : World) (h : PU.ciboriumref01_Unhex.f K t = some (l, e)) (he : e = 0) (hl : 0 < l.length) (hm : l.length ≤ 1000000) (h0 : l.getD 0 0 = 0) :
    Calls Try.prog 32 #[.string t] w (Post w 0 [] 40) := by
  have HU := Lib.hid h
  subst he
  clear h
  have HG := Lib.hid (Blk.Is.new w #[.int .u8 0, .slice none 0 0] 44)
  have HB0 : Hid (Below w.heap.size w (w.alloc (.cells #[.int .u8 0, .slice none 0 0] 44))) := (Below.refl w.heap.size w).alloc (Nat.le_refl _) _
  go_enter Try.func32, Try.ntmps32
  go_wp2_with fail
  refine (PU.ciboriumref01_Unhex.calls K t l 0 _ HU.out).mono ?_
  rintro en w1 ⟨v4, rfl, hR, hb⟩
  obtain ⟨A4, c4, rfl, hc4, hC4⟩ := (Row.of_R hR).reads
  have HI := Lib.hid (Row.of_R hR)
  have HG1 := Lib.hid (HG.out.below hb HG.out.lt)
  have HB1 : Hid (Below w.heap.size w w1) := HB0.out.trans (hb.mono HB0.out.size)
  have x0 := HG1.out.cell 0
  have x1 := HG1.out.cell 1
  have y0 := HG1.out.free 0
  have y1 := HG1.out.free 1
  obtain ⟨g, rfl, _⟩ := HI.out.head (by omega)
  have hx := (HI.out.cell 0 (by omega)).1
  rw [h0] at hx
  clear hR hb hC4 HG HB0 HU HI
  go_wp2
  exact ret_cell rfl rfl ((HG1.out.set 0 _).set 1 _) rfl rfl ⟨none, 0, rfl, Nat.le_refl _, C_nil _, (HB1.out.setCell (Nat.le_refl _) _).setCell (Nat.le_refl _) _⟩

set_option maxHeartbeats 2000000 in
theorem refRead_long (t : ByteArray) (l : List Int) (e : Int) (K : Nat) (w : World) (h : PU.ciboriumref01_Unhex.f K t = some (l, e)) (he : e = 0) (hl : 1025 < l.length) (hm : l.length ≤ 1000000) (h0 : l.getD 0 0 ≠ 0) :
    Calls Try.prog 32 #[.string t] w (Post w 0 [] 3) := by
  have HU := Lib.hid h
  subst he
  have hz : (l.getD 0 0 == 0) = false := beq_eq_false_iff_ne.mpr h0
  generalize hy : l.getD 0 0 = y at *
  clear h
  have HG := Lib.hid (Blk.Is.new w #[.int .u8 0, .slice none 0 0] 44)
  have HB0 : Hid (Below w.heap.size w (w.alloc (.cells #[.int .u8 0, .slice none 0 0] 44))) := (Below.refl w.heap.size w).alloc (Nat.le_refl _) _
  go_enter Try.func32, Try.ntmps32
  go_wp2_with fail
  refine (PU.ciboriumref01_Unhex.calls K t l 0 _ HU.out).mono ?_
  rintro en w1 ⟨v4, rfl, hR, hb⟩
  obtain ⟨A4, c4, rfl, hc4, hC4⟩ := (Row.of_R hR).reads
  have HI := Lib.hid (Row.of_R hR)
  have HG1 := Lib.hid (HG.out.below hb HG.out.lt)
  have HB1 : Hid (Below w.heap.size w w1) := HB0.out.trans (hb.mono HB0.out.size)
  have x0 := HG1.out.cell 0
  have x1 := HG1.out.cell 1
  have y0 := HG1.out.free 0
  have y1 := HG1.out.free 1
  obtain ⟨g, rfl, _⟩ := HI.out.head (by omega)
  have hx := (HI.out.cell 0 (by omega)).1
  rw [hy] at hx
  clear hy h0
  clear hR hb hC4 HG HB0 HU HI
  go_wp2
  exact ret_cell rfl rfl ((HG1.out.set 0 _).set 1 _) rfl rfl ⟨none, 0, rfl, Nat.le_refl _, C_nil _, (HB1.out.setCell (Nat.le_refl _) _).setCell (Nat.le_refl _) _⟩

set_option maxHeartbeats 2000000 in
theorem refRead_good (t : ByteArray) (l : List Int) (e : Int) (K : Nat) (w : World) (h : PU.ciboriumref01_Unhex.f K t = some (l, e)) (he : e = 0) (hl : 0 < l.length) (hm : l.length ≤ 1025) (h0 : l.getD 0 0 ≠ 0) :
    Calls Try.prog 32 #[.string t] w (Post w (l.getD 0 0) (l.drop 1) 0) := by
  have HU := Lib.hid h
  subst he
  have hz : (l.getD 0 0 == 0) = false := beq_eq_false_iff_ne.mpr h0
  generalize hy : l.getD 0 0 = y at *
  clear h
  have HG := Lib.hid (Blk.Is.new w #[.int .u8 0, .slice none 0 0] 44)
  have HB0 : Hid (Below w.heap.size w (w.alloc (.cells #[.int .u8 0, .slice none 0 0] 44))) := (Below.refl w.heap.size w).alloc (Nat.le_refl _) _
  go_enter Try.func32, Try.ntmps32
  go_wp2_with fail
  refine (PU.ciboriumref01_Unhex.calls K t l 0 _ HU.out).mono ?_
  rintro en w1 ⟨v4, rfl, hR, hb⟩
  obtain ⟨A4, c4, rfl, hc4, hC4⟩ := (Row.of_R hR).reads
  have HI := Lib.hid (Row.of_R hR)
  have HG1 := Lib.hid (HG.out.below hb HG.out.lt)
  have HB1 : Hid (Below w.heap.size w w1) := HB0.out.trans (hb.mono HB0.out.size)
  have x0 := HG1.out.cell 0
  have x1 := HG1.out.cell 1
  have y0 := HG1.out.free 0
  have y1 := HG1.out.free 1
  obtain ⟨g, rfl, hgb⟩ := HI.out.head (by omega)
  have hne : Hid (g ≠ w.heap.size) := fun e => by have h2 : w.heap.size < (w.alloc (.cells #[.int .u8 0, .slice none 0 0] 44)).heap.size := by simp
                                                  omega
  clear hgb
  have hx := (HI.out.cell 0 (by omega)).1
  rw [hy] at hx
  clear hy h0
  obtain ⟨i0, hi0, _, hsz0, _⟩ := info_parts infoB
  have hcut := cut_from (P := Try.prog) 22 5 .i64 Try.underlying22 hi0 1 hsz0 (some ⟨g, 0, none⟩) l.length c4 1 (by omega) (by omega)
  have hC2 := fun W (hW : Kd.C (Kd.int .u8) W (some ⟨g, 0, none⟩) l.length l) => Kd.C_drop (m := 1) hW (by omega) hc4
  have hln : (l.drop 1).length = l.length - 1 := List.length_drop
  rw [hln] at hC2
  rw [show (1 : Int).toNat = 1 from rfl] at hcut
  have hcc : l.length - 1 ≤ c4 - 1 := by omega
  generalize hA2 : (if c4 = 1 then (some ⟨g, 0, none⟩ : Option Addr) else (some ⟨g, 0, none⟩ : Option Addr).map (·.add (1 * 1))) = A2 at hcut
  have HA2 : Hid (∀ W, Kd.C (Kd.int .u8) W (some ⟨g, 0, none⟩) l.length l → Kd.C (Kd.int .u8) W A2 (l.length - 1) (l.drop 1)) := fun W hW => by rw [← hA2]; exact hC2 W hW
  have HLn := Lib.hid hln
  clear hC2 hln hA2 hi0 hsz0
  clear hR hb hC4 HG HB0 HU
  go_wp2_with fail
  -- region 10 refRead
  refine start_ (n := 8) (S := fun w' => w'.cell? ⟨g, 0, none⟩ = some (.int .u8 y)) (ds := [6]) #[false, false, false, false, false, false, false, false] (by kernel_rfl) rfl rfl (hx) (fun hHeld => ?_)
  have HG2 := Lib.hid (HG1.out.drewN 1)
  have HI2 := Lib.hid (HI.out.drewN 1)
  have HB2 := Lib.hid (pw_below_drewN HB1.out 1)
  clear HG1 HI HB1
  change Hid (Blk.Is w1.drew _ _ _) at HG2
  change Hid (Row.Is w1.drew _ _ _) at HI2
  change Hid (Below _ _ w1.drew) at HB2
  generalize w1.drew = w2 at *
  refine pure_ (i := 0) (N := some 28) (v := ?_) (a' := ?_) #[true, false, false, false, false, false, false, false] rfl rfl (by kernel_rfl) (fun _ _ _ h => h) (Or.inl ⟨by rfl, ?_⟩) ?_ ?_
  rotate_left
  · intro w'
    go_simp
    with_reducible rfl
  rotate_left
  · simp only [Act.put, List.setIfInBounds_toArray, List.set_cons_zero, List.set_cons_succ, i64_w, i32_w]
    rfl
  refine pure_ (i := 1) (N := some 29) (v := ?_) (a' := ?_) #[true, true, false, false, false, false, false, false] rfl rfl (by kernel_rfl) (fun _ _ _ h => h) (Or.inl ⟨by rfl, ?_⟩) ?_ ?_
  rotate_left
  · intro w'
    go_simp
    with_reducible rfl
  rotate_left
  · simp only [Act.put, List.setIfInBounds_toArray, List.set_cons_zero, List.set_cons_succ, i64_w, i32_w]
    rfl
  refine pure_ (i := 3) (N := some 31) (v := ?_) (a' := ?_) #[true, true, false, true, false, false, false, false] rfl rfl (by kernel_rfl) (fun _ _ _ h => h) (Or.inl ⟨by rfl, ?_⟩) ?_ ?_
  rotate_left
  · intro w'
    go_simp
    with_reducible rfl
  rotate_left
  · simp only [Act.put, List.setIfInBounds_toArray, List.set_cons_zero, List.set_cons_succ, i64_w, i32_w]
    rfl
  refine pure_ (i := 4) (N := some 32) (v := ?_) (a' := ?_) #[true, true, false, true, true, false, false, false] rfl rfl (by kernel_rfl) (fun _ _ _ h => h) (Or.inl ⟨by rfl, ?_⟩) ?_ ?_
  rotate_left
  · intro w'
    go_simp
    with_reducible rfl
  rotate_left
  · simp only [Act.put, List.setIfInBounds_toArray, List.set_cons_zero, List.set_cons_succ, i64_w, i32_w]
    rfl
  refine take_ (i := 2) (N := some 30) (v := ?_) (a' := ?_) #[true, true, true, true, true, false, false, false] rfl rfl (by kernel_rfl) (fun _ _ _ h => h) (Or.inl ⟨by rfl, ?_⟩) hHeld ?_ ?_
  rotate_left
  · intro w' s0
    go_simp
    with_reducible rfl
  rotate_left
  · simp only [Act.put, List.setIfInBounds_toArray, List.set_cons_zero, List.set_cons_succ, i64_w, i32_w]
    rfl
  refine pure_ (i := 5) (N := some 33) (v := ?_) (a' := ?_) #[true, true, true, true, true, true, false, false] rfl rfl (by kernel_rfl) (fun _ _ _ h => h) (Or.inl ⟨by rfl, ?_⟩) ?_ ?_
  rotate_left
  · intro w'
    go_simp
    with_reducible rfl
  rotate_left
  · simp only [Act.put, List.setIfInBounds_toArray, List.set_cons_zero, List.set_cons_succ, i64_w, i32_w]
    rfl
  refine last_ (i := 6) (N := none) #[true, true, true, true, true, true, true, false] rfl rfl (by kernel_rfl) (by decide) (fun K hK => ?_)
  have z0 := HG2.out.cell 0
  have z1 := HG2.out.cell 1
  have f0 := HG2.out.free 0
  have f1 := HG2.out.free 1
  refine skip_ (w1 := ?_) (by rfl) rfl ?_ ?_
  rotate_left
  · go_simp
    rfl
  refine hK.out _ _ ?_
  clear hK K
  refine pure_ (i := 7) (N := some 3) (v := ?_) (a' := ?_) #[true, true, true, true, true, true, true, true] rfl rfl (by kernel_rfl) (fun _ _ _ h => h) (Or.inl ⟨by rfl, ?_⟩) ?_ ?_
  rotate_left
  · intro w'
    go_simp
    with_reducible rfl
  rotate_left
  · simp only [Act.put, List.setIfInBounds_toArray, List.set_cons_zero, List.set_cons_succ, i64_w, i32_w]
    rfl
  refine done_ (by kernel_rfl) ?_
  -- behind it refRead
  go_wp2
  refine ret_cell rfl rfl ((HG2.out.set 0 _).set 1 _) rfl rfl ⟨A2, c4 - 1, ?_, ?_, ?_, (HB2.out.setCell (Nat.le_refl _) _).setCell (Nat.le_refl _) _⟩
  · rw [HLn.out]; rfl
  · rw [HLn.out]; exact hcc
  · rw [HLn.out]
    exact HA2.out _ ((HI2.out.other (fun e => hne.out (by simpa [Value.ownBlock] using e)) _).other (fun e => hne.out (by simpa [Value.ownBlock] using e)) _).reads'.2.2

theorem refRead_calls (t : ByteArray) (l : List Int) (e : Int) (K : Nat) (w : World) (h : PU.ciboriumref01_Unhex.f K t = some (l, e)) (hl : l.length ≤ 1000000) :
    Calls Try.prog 32 #[.string t] w (Post w (readX l e) (readY l e) (readE l e)) := by
  unfold readX readY readE
  by_cases h1 : e = 0
  · rw [if_neg (show ¬ (e ≠ 0) from fun h => h h1), if_neg (show ¬ (e ≠ 0) from fun h => h h1), if_neg (show ¬ (e ≠ 0) from fun h => h h1)]
    by_cases h2 : l.length = 0
    · rw [if_pos h2, if_pos h2, if_pos h2]
      exact refRead_nil t l e K w h h1 h2
    · rw [if_neg h2, if_neg h2, if_neg h2]
      by_cases h3 : l.getD 0 0 = 0
      · rw [if_pos h3, if_pos h3, if_pos h3]
        exact refRead_zero t l e K w h h1 (by omega) hl h3
      · rw [if_neg h3, if_neg h3, if_neg h3]
        by_cases h4 : 1025 < l.length
        · rw [if_pos h4, if_pos h4, if_pos h4]
          exact refRead_long t l e K w h h1 h4 hl h3
        · rw [if_neg h4, if_neg h4, if_neg h4]
          exact refRead_good t l e K w h h1 (by omega) (by omega) h3
  · rw [if_pos h1, if_pos h1, if_pos h1]
    exact refRead_err t l e K w h h1
end Go.Proofs.Ytglnepokollijaa.ShRead
