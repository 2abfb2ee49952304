/- What is said here: the bytes that the reference's reader answers. -/
import Derived.Test.YtengdchgfhcdhaaRReader
import Derived.StillTailTactics
namespace Go.Proofs.Ytengdchgfhcdhaa.RReader
set_option linter.unusedVariables false
set_option linter.unusedSimpArgs false
open Go.RowKit Go.Proofs.YtengdchgfhcdhaaW.PrintWords Go.Proofs.YtengdchgfhcdhaaW.PrintLast Go.Proofs.YtengdchgfhcdhaaW.PrintMore
open Reader (Only)

theorem takeL_mem (s : Reader.St) (n : Int) : ∀ x ∈ s.takeL n, x ∈ s.bs := by
  intro x hx
  unfold Reader.St.takeL at hx
  split at hx
  · cases hx
  · split at hx
    · cases hx
    · split at hx
      · cases hx
      · exact List.mem_of_mem_drop (List.mem_of_mem_take hx)

set_option maxRecDepth 100000 in
set_option maxHeartbeats 2000000 in
theorem Raw_calls (g base : Nat) (A : Option Addr) (c : Nat) (s : Reader.St) (n : Int) (w : World) (h : Is w base g A c s) (hn : -9223372036854775808 ≤ n) (hn2 : n ≤ 9223372036854775807) (hl : s.bs.length ≤ 100000000000000) :
    Calls Try.prog 48 #[.pointer (some ⟨g, 0, none⟩), .int .i64 n] w fun e w' => ∃ v, e = .returned v ∧ Row.Is w' w.heap.size v (s.takeL n) ∧ Is w' base g A c (s.takeS n) ∧ Only g w w' := by
  obtain ⟨h1, h2, h3⟩ := h.ex
  have x2 : w.cell? ⟨g, 2, none⟩ = some (.int .i64 s.e) := h1.cell 2
  have y2 := h1.free 2
  have H := Lib.hid h
  by_cases h_e : s.e = 0
  · have hez : (s.e == 0) = true := beq_iff_eq.mpr h_e
    by_cases hneg : n < 0
    · have eL : s.takeL n = [] := by rw [Reader.St.takeL, if_neg (fun h => h h_e), if_pos hneg]
      have eS : s.takeS n = { s with e := 2 } := by rw [Reader.St.takeS, if_neg (fun h => h h_e), if_pos hneg]
      have hI : Is (w.setCell ⟨g, 2, none⟩ (.int .i64 2)) base g A c { s with e := 2 } := ⟨⟨h1.set 2 _, h2.other (by simpa using h3) _, h3⟩, h.base, h.at_, by simp, by simp⟩
      have HF := Lib.hid (fits_calls g base A c { s with e := 2 } n _ hI)
      rw [show fitsB { s with e := 2 } n = false from rfl, show fitsS { s with e := 2 } n = { s with e := 2 } by unfold fitsS; rw [if_pos (by show (2 : Int) ≠ 0; decide)]] at HF
      rw [eL, eS]
      clear eL eS h_e h1 h2 h3 h hI
      go_enter Try.func48, Try.ntmps48
      go_wp2_with fail
      refine HF.out.mono ?_
      rintro e w1 ⟨rfl, hI, hO⟩
      have HI := Lib.hid hI
      have HO : Hid (Only g w w1) := ((Only.refl _ _).set 2 _).trans hO
      clear hI hO
      go_wp2
      go_ret
      exact ⟨_, rfl, Row.Is.nil _ _, HI.out, HO.out⟩
    · have HF := Lib.hid (fits_calls g base A c s n w h)
      by_cases hfar : (s.bs.length : Int) - s.at_ < n
      · have eL : s.takeL n = [] := by rw [Reader.St.takeL, if_neg (fun h => h h_e), if_neg hneg, if_pos hfar]
        have eS : s.takeS n = { s with e := 10 } := by rw [Reader.St.takeS, if_neg (fun h => h h_e), if_neg hneg, if_pos hfar]
        rw [show fitsB s n = false by unfold fitsB; rw [decide_eq_false (by omega), Bool.and_false], show fitsS s n = { s with e := 10 } by unfold fitsS; rw [if_neg (fun h => h h_e), if_pos hfar]] at HF
        rw [eL, eS]
        clear eL eS h_e h1 h2 h3 h
        go_enter Try.func48, Try.ntmps48
        go_wp2_with fail
        refine HF.out.mono ?_
        rintro e w1 ⟨rfl, hI, hO⟩
        have HI := Lib.hid hI
        have HO := Lib.hid hO
        clear hI hO
        go_wp2
        go_ret
        exact ⟨_, rfl, Row.Is.nil _ _, HI.out, HO.out⟩
      · rw [show fitsB s n = true by unfold fitsB; rw [hez, decide_eq_true (by omega)]; rfl, show fitsS s n = s by unfold fitsS; rw [if_neg (fun h => h h_e), if_neg hfar]] at HF
        have hat := h.at_
        obtain ⟨m, rfl⟩ := Int.eq_ofNat_of_zero_le (by omega : 0 ≤ n)
        have hm : s.at_ + m ≤ s.bs.length := by omega
        have eL : s.takeL (m : Int) = (s.bs.take (s.at_ + m)).drop s.at_ := by
          rw [Reader.St.takeL, if_neg (fun h => h h_e), if_neg hneg, if_neg hfar, Int.toNat_natCast, List.drop_take, Nat.add_sub_cancel_left]
        have eS : s.takeS (m : Int) = { s with at_ := s.at_ + m } := by rw [Reader.St.takeS, if_neg (fun h => h h_e), if_neg hneg, if_neg hfar, Int.toNat_natCast]
        have hlen : (s.takeL (m : Int)).length = m := by rw [eL, List.length_drop, List.length_take]; omega
        obtain ⟨i0, hi0, _, hsz0, _⟩ := info_parts Row.infoB
        have hcut := cut_mid (P := Try.prog) 22 5 .i64 .i64 Try.underlying22 hi0 1 hsz0 A s.bs.length c (s.at_ : Int) ((s.at_ : Int) + (m : Int)) (by omega) (by omega) (by omega) h2.max.1
        have hmid : ∀ W, Row.Is W base (.slice A s.bs.length c) s.bs → Kd.C (Kd.int .u8) W (if c = s.at_ then A else A.map (·.add (s.at_ * 1))) ((s.bs.take (s.at_ + m)).drop s.at_).length ((s.bs.take (s.at_ + m)).drop s.at_) := fun W hW => Kd.C_mid (k := Kd.int .u8) (lo := s.at_) (hi := s.at_ + m) hW.reads'.2.2 (by omega) hm h2.max.1
        rw [← eL] at hmid
        rw [show ((s.at_ : Int) + (m : Int)).toNat - (s.at_ : Int).toNat = m by omega, Int.toNat_natCast] at hcut
        generalize (if c = s.at_ then A else A.map (·.add (s.at_ * 1))) = A2 at hmid hcut
        rw [eS]
        generalize s.takeL (m : Int) = l at *
        have HL := Lib.hid hlen
        have HM := Lib.hid hmid
        have He := Lib.hid h_e
        have hw1 : IntKind.i64.wrap ((s.at_ : Int) + (m : Int)) = (s.at_ : Int) + (m : Int) := IntWalk.i64_in _ (by omega)
        clear h h1 h2 h3 eL eS h_e hi0 hsz0 hlen hmid
        go_enter Try.func48, Try.ntmps48
        go_wp2_with fail
        refine HF.out.mono ?_
        rintro e w1 ⟨rfl, hI, hO⟩
        have HX1 := Lib.hid hI.ex.1
        have HR1 := Lib.hid hI.ex.2.1
        have HN1 := Lib.hid hI.ex.2.2
        have HO1 := Lib.hid hO
        have HBS := Lib.hid hI.base
        clear hI hO HF H x2 y2
        go_wp2_with fail
        -- region 6
        refine start_ (n := 18) (S := fun w' => w'.cell? ⟨g, 0, none⟩ = some (.slice A s.bs.length c) ∧ w'.cell? ⟨g, 1, none⟩ = some (.int .i64 (s.at_ : Int))) (ds := []) #[false, false, false, false, false, false, false, false, false, false, false, false, false, false, false, false, false, false] (by kernel_rfl) rfl rfl ⟨((HX1.out.drewN 1).cell 0), ((HX1.out.drewN 1).cell 1)⟩ (fun hHeld => ?_)
        have HX2 := Lib.hid (HX1.out.drewN 1)
        have HR2 := Lib.hid (HR1.out.drewN 1)
        have HO2 := Lib.hid (HO1.out.drewN 1)
        clear HX1 HR1 HO1
        change Hid (Blk.Is w1.drew _ _ _) at HX2
        change Hid (Row.Is w1.drew _ _ _) at HR2
        change Hid (Only _ _ w1.drew) at HO2
        generalize w1.drew = w2 at *
        have HX2lt := Lib.hid HX2.out.lt
        refine pure_ (i := 0) (N := some 22) (v := ?_) (a' := ?_) #[true, false, false, false, false, false, false, false, false, false, false, false, false, false, false, false, false, false] rfl rfl (by kernel_rfl) (fun _ _ _ h => h) (Or.inl ⟨by rfl, ?_⟩) ?_ ?_
        rotate_left
        · intro w'
          go_simp
          with_reducible rfl
        rotate_left
        · simp only [Act.put, List.setIfInBounds_toArray, List.set_cons_zero, List.set_cons_succ, i64_w, i32_w]
          rfl
        refine pure_ (i := 1) (N := some 23) (v := ?_) (a' := ?_) #[true, true, false, false, false, false, false, false, false, false, false, false, false, false, false, false, false, false] rfl rfl (by kernel_rfl) (fun _ _ _ h => h) (Or.inl ⟨by rfl, ?_⟩) ?_ ?_
        rotate_left
        · intro w'
          go_simp
          with_reducible rfl
        rotate_left
        · simp only [Act.put, List.setIfInBounds_toArray, List.set_cons_zero, List.set_cons_succ, i64_w, i32_w]
          rfl
        refine pure_ (i := 2) (N := some 24) (v := ?_) (a' := ?_) #[true, true, true, false, false, false, false, false, false, false, false, false, false, false, false, false, false, false] rfl rfl (by kernel_rfl) (fun _ _ _ h => h) (Or.inl ⟨by rfl, ?_⟩) ?_ ?_
        rotate_left
        · intro w'
          go_simp
          with_reducible rfl
        rotate_left
        · simp only [Act.put, List.setIfInBounds_toArray, List.set_cons_zero, List.set_cons_succ, i64_w, i32_w]
          rfl
        refine pure_ (i := 3) (N := some 25) (v := ?_) (a' := ?_) #[true, true, true, true, false, false, false, false, false, false, false, false, false, false, false, false, false, false] rfl rfl (by kernel_rfl) (fun _ _ _ h => h) (Or.inl ⟨by rfl, ?_⟩) ?_ ?_
        rotate_left
        · intro w'
          go_simp
          with_reducible rfl
        rotate_left
        · simp only [Act.put, List.setIfInBounds_toArray, List.set_cons_zero, List.set_cons_succ, i64_w, i32_w]
          rfl
        refine pure_ (i := 5) (N := some 27) (v := ?_) (a' := ?_) #[true, true, true, true, false, true, false, false, false, false, false, false, false, false, false, false, false, false] rfl rfl (by kernel_rfl) (fun _ _ _ h => h) (Or.inl ⟨by rfl, ?_⟩) ?_ ?_
        rotate_left
        · intro w'
          go_simp
          with_reducible rfl
        rotate_left
        · simp only [Act.put, List.setIfInBounds_toArray, List.set_cons_zero, List.set_cons_succ, i64_w, i32_w]
          rfl
        refine pure_ (i := 6) (N := some 28) (v := ?_) (a' := ?_) #[true, true, true, true, false, true, true, false, false, false, false, false, false, false, false, false, false, false] rfl rfl (by kernel_rfl) (fun _ _ _ h => h) (Or.inl ⟨by rfl, ?_⟩) ?_ ?_
        rotate_left
        · intro w'
          go_simp
          with_reducible rfl
        rotate_left
        · simp only [Act.put, List.setIfInBounds_toArray, List.set_cons_zero, List.set_cons_succ, i64_w, i32_w]
          rfl
        refine pure_ (i := 7) (N := some 29) (v := ?_) (a' := ?_) #[true, true, true, true, false, true, true, true, false, false, false, false, false, false, false, false, false, false] rfl rfl (by kernel_rfl) (fun _ _ _ h => h) (Or.inl ⟨by rfl, ?_⟩) ?_ ?_
        rotate_left
        · intro w'
          go_simp
          with_reducible rfl
        rotate_left
        · simp only [Act.put, List.setIfInBounds_toArray, List.set_cons_zero, List.set_cons_succ, i64_w, i32_w]
          rfl
        refine pure_ (i := 9) (N := some 31) (v := ?_) (a' := ?_) #[true, true, true, true, false, true, true, true, false, true, false, false, false, false, false, false, false, false] rfl rfl (by kernel_rfl) (fun _ _ _ h => h) (Or.inl ⟨by rfl, ?_⟩) ?_ ?_
        rotate_left
        · intro w'
          go_simp
          with_reducible rfl
        rotate_left
        · simp only [Act.put, List.setIfInBounds_toArray, List.set_cons_zero, List.set_cons_succ, i64_w, i32_w]
          rfl
        refine pure_ (i := 10) (N := some 32) (v := ?_) (a' := ?_) #[true, true, true, true, false, true, true, true, false, true, true, false, false, false, false, false, false, false] rfl rfl (by kernel_rfl) (fun _ _ _ h => h) (Or.inl ⟨by rfl, ?_⟩) ?_ ?_
        rotate_left
        · intro w'
          go_simp
          with_reducible rfl
        rotate_left
        · simp only [Act.put, List.setIfInBounds_toArray, List.set_cons_zero, List.set_cons_succ, i64_w, i32_w]
          rfl
        refine pure_ (i := 11) (N := some 33) (v := ?_) (a' := ?_) #[true, true, true, true, false, true, true, true, false, true, true, true, false, false, false, false, false, false] rfl rfl (by kernel_rfl) (fun _ _ _ h => h) (Or.inl ⟨by rfl, ?_⟩) ?_ ?_
        rotate_left
        · intro w'
          go_simp
          with_reducible rfl
        rotate_left
        · simp only [Act.put, List.setIfInBounds_toArray, List.set_cons_zero, List.set_cons_succ, i64_w, i32_w]
          rfl
        refine pure_ (i := 13) (N := some 35) (v := ?_) (a' := ?_) #[true, true, true, true, false, true, true, true, false, true, true, true, false, true, false, false, false, false] rfl rfl (by kernel_rfl) (fun _ _ _ h => h) (Or.inl ⟨by rfl, ?_⟩) ?_ ?_
        rotate_left
        · intro w'
          go_simp
          with_reducible rfl
        rotate_left
        · simp only [Act.put, List.setIfInBounds_toArray, List.set_cons_zero, List.set_cons_succ, i64_w, i32_w]
          rfl
        refine take_ (i := 4) (N := some 26) (v := ?_) (a' := ?_) #[true, true, true, true, true, true, true, true, false, true, true, true, false, true, false, false, false, false] rfl rfl (by kernel_rfl) (fun _ _ _ h => h) (Or.inl ⟨by rfl, ?_⟩) hHeld ?_ ?_
        rotate_left
        · rintro w' ⟨s0, s1⟩
          go_simp
          with_reducible rfl
        rotate_left
        · simp only [Act.put, List.setIfInBounds_toArray, List.set_cons_zero, List.set_cons_succ, i64_w, i32_w]
          rfl
        refine take_ (i := 8) (N := some 30) (v := ?_) (a' := ?_) #[true, true, true, true, true, true, true, true, true, true, true, true, false, true, false, false, false, false] rfl rfl (by kernel_rfl) (fun _ _ _ h => h) (Or.inl ⟨by rfl, ?_⟩) hHeld ?_ ?_
        rotate_left
        · rintro w' ⟨s0, s1⟩
          go_simp
          with_reducible rfl
        rotate_left
        · simp only [Act.put, List.setIfInBounds_toArray, List.set_cons_zero, List.set_cons_succ, i64_w, i32_w]
          rfl
        refine take_ (i := 12) (N := some 34) (v := ?_) (a' := ?_) #[true, true, true, true, true, true, true, true, true, true, true, true, true, true, false, false, false, false] rfl rfl (by kernel_rfl) (fun _ _ _ h => h) (Or.inl ⟨by rfl, ?_⟩) hHeld ?_ ?_
        rotate_left
        · rintro w' ⟨s0, s1⟩
          go_simp
          with_reducible rfl
        rotate_left
        · simp only [Act.put, List.setIfInBounds_toArray, List.set_cons_zero, List.set_cons_succ, i64_w, i32_w]
          rfl
        refine pure_ (i := 14) (N := some 36) (v := ?_) (a' := ?_) #[true, true, true, true, true, true, true, true, true, true, true, true, true, true, true, false, false, false] rfl rfl (by kernel_rfl) (fun _ _ _ h => h) (Or.inl ⟨by rfl, ?_⟩) ?_ ?_
        rotate_left
        · intro w'
          go_simp
          with_reducible rfl
        rotate_left
        · simp only [Act.put, List.setIfInBounds_toArray, List.set_cons_zero, List.set_cons_succ, i64_w, i32_w]
          rfl
        refine pure_ (i := 15) (N := some 37) (v := ?_) (a' := ?_) #[true, true, true, true, true, true, true, true, true, true, true, true, true, true, true, true, false, false] rfl rfl (by kernel_rfl) (fun _ _ _ h => h) (Or.inl ⟨by rfl, ?_⟩) ?_ ?_
        rotate_left
        · intro w'
          go_simp
          with_reducible rfl
        rotate_left
        · simp only [Act.put, List.setIfInBounds_toArray, List.set_cons_zero, List.set_cons_succ, i64_w, i32_w]
          rfl
        refine one_ (i := 16) (N := some 38) #[true, true, true, true, true, true, true, true, true, true, true, true, true, true, true, true, true, false] rfl rfl (by kernel_rfl) (by decide) (fun K hK => ?_)
        refine Row.appendStep w2.heap.size _ _ (.slice none 0 0) [] A2 m (c - s.at_) l rfl rfl rfl rfl HL.out.symm (Row.Is.nil _ _) (HM.out _ HR2.out) (Nat.le_refl _) (by rw [List.length_nil, HL.out]; omega) ?_
        intro v1 w3 h1 h2 h3 h4
        have HX3 := Lib.hid (HX2.out.below h2 HX2.out.lt)
        have HR3 := Lib.hid (HR2.out.below h2)
        have HV3 := Lib.hid h1
        have HB3 := Lib.hid h2
        clear h1 h2 h3 h4 HX2 HR2
        refine hK.out _ _ ⟨(HX3.out.cell 0), (HX3.out.cell 1)⟩ (fun hHeld => ?_)
        clear hK K
        refine norm_ (a' := ?_) ?_ ?_
        rotate_left
        · show Act.put _ (some 38) _ = _
          simp only [Act.put, List.setIfInBounds_toArray, List.set_cons_zero, List.set_cons_succ, i64_w, i32_w]
          rfl
        refine pure_ (i := 17) (N := some 5) (v := ?_) (a' := ?_) #[true, true, true, true, true, true, true, true, true, true, true, true, true, true, true, true, true, true] rfl rfl (by kernel_rfl) (fun _ _ _ h => h) (Or.inl ⟨by rfl, ?_⟩) ?_ ?_
        rotate_left
        · intro w'
          go_simp
          with_reducible rfl
        rotate_left
        · simp only [Act.put, List.setIfInBounds_toArray, List.set_cons_zero, List.set_cons_succ, i64_w, i32_w]
          rfl
        refine done_ (by kernel_rfl) ?_
        have z1 : w3.cell? ⟨g, 1, none⟩ = some (.int .i64 (s.at_ : Int)) := HX3.out.cell 1
        have q1 := HX3.out.free 1
        have HO3 : Hid (Only g w w3) := HO2.out.trans (Only.of_below HB3.out)
        go_wp2
        go_ret
        refine ⟨_, rfl, ?_, ⟨⟨HX3.out.set 1 _, HR3.out.other (by simpa using HN1.out) _, HN1.out⟩, HBS.out, by show s.at_ + m ≤ s.bs.length; exact hm, by show 0 ≤ s.e; rw [He.out]; omega, by show s.e ≤ 1000; rw [He.out]; omega⟩, HO3.out.set _ _⟩
        exact (HV3.out.other (a := ⟨g, 1, none⟩) (fun e => absurd HX2lt.out (Nat.not_lt.mpr (HV3.out.lt _ e).1)) _).lower HO2.out.size
  · have hez2 : (s.e == 0) = false := beq_eq_false_iff_ne.mpr h_e
    have HF := Lib.hid (fits_calls g base A c s n w h)
    have eL : s.takeL n = [] := by rw [Reader.St.takeL, if_pos h_e]
    have eS : s.takeS n = s := by rw [Reader.St.takeS, if_pos h_e]
    rw [show fitsB s n = false by unfold fitsB; rw [hez2]; rfl, show fitsS s n = s by unfold fitsS; rw [if_pos h_e]] at HF
    rw [eL, eS]
    clear eL eS h_e h1 h2 h3 h
    go_enter Try.func48, Try.ntmps48
    go_wp2_with fail
    refine HF.out.mono ?_
    rintro e w1 ⟨rfl, hI, hO⟩
    have HI := Lib.hid hI
    have HO := Lib.hid hO
    clear hI hO
    go_wp2
    go_ret
    exact ⟨_, rfl, Row.Is.nil _ _, HI.out, HO.out⟩
end Go.Proofs.Ytengdchgfhcdhaa.RReader
