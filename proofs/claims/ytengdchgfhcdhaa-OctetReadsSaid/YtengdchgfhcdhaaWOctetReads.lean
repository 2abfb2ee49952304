/- It is proved here that the law OctetReads, called with any two lists of bytes and any questions, answers true and leaves what was there alone. No condition. -/
import Derived.Test.YtengdchgfhcdhaaAsked
import Derived.Test.YtengdchgfhcdhaaRoom
import Derived.Test.YtengdchgfhcdhaaWorks
namespace Go.Proofs.Ytengdchgfhcdhaa.HOctetReads
set_option linter.unusedVariables false
set_option linter.unusedSimpArgs false
open Go.RowKit Go.Proofs.YtengdchgfhcdhaaW.PrintWords Go.Proofs.YtengdchgfhcdhaaW.PrintLast Go.Proofs.YtengdchgfhcdhaaW.PrintMore
open Asked

theorem copy_f (l : List Int) (h : l.length ≤ 100000000000000) : PA.ciboriumref00_CopyBytes.f l = some l := by
  unfold PA.ciboriumref00_CopyBytes.f
  rw [if_pos (by simp; omega)]
  rfl
set_option maxHeartbeats 1000000 in
theorem law_far (A0 : Option Addr) (c0 n0 : Nat) (A1 : Option Addr) (c1 n1 : Nat) (A2 : Option Addr) (c2 n2 : Nat) (w : World) (h : 131072 < n0 + n1 ∨ 4096 < n2) (h0 : n0 ≤ 140737488351232) (h1 : n1 ≤ 140737488351232) (h2 : n2 ≤ 9223372036854775807) :
    Calls Try.prog 4 #[.slice A0 n0 c0, .slice A1 n1 c1, .slice A2 n2 c2] w fun e w' => e = .returned (.bool true) ∧ Below w.heap.size w w' := by
  have hw : IntKind.i64.wrap ((n0 : Int) + (n1 : Int)) = (n0 : Int) + (n1 : Int) := IntWalk.i64_in _ (by omega)
  by_cases hx : 131072 < n0 + n1
  · have hx2 : (n0 : Int) + (n1 : Int) > 131072 := by omega
    go_enter Try.func4, Try.ntmps4
    go_wp2_with fail
    refine (Works.works _).mono ?_
    rintro e w1 ⟨rfl, hb⟩
    go_wp2
    go_ret
    exact ⟨rfl, hb⟩
  · have hx1 : 4096 < n2 := h.resolve_left hx
    have hx2 : ¬ (n0 : Int) + (n1 : Int) > 131072 := by omega
    go_enter Try.func4, Try.ntmps4
    go_wp2_with fail
    refine (Works.works _).mono ?_
    rintro e w1 ⟨rfl, hb⟩
    go_wp2
    go_ret
    exact ⟨rfl, hb⟩

/-- The questions are read. -/
def Reads (W : World) (A : Option Addr) (xs : List (Int × Int)) : Prop :=
  ∀ (i : Nat) (h : i < xs.length), ∃ b o, A = some ⟨b, o, none⟩ ∧ W.cell? ⟨b, o + i * 2, none⟩ = some (.int .i64 xs[i].1) ∧ W.cell? ⟨b, o + i * 2 + 1, none⟩ = some (.int .i64 xs[i].2)
theorem Reads.below {W W' : World} {A : Option Addr} {xs : List (Int × Int)} (h : Reads W A xs) (hb : Below W.heap.size W W') : Reads W' A xs := by
  intro i hi
  obtain ⟨b, o, e, h1, h2⟩ := h i hi
  exact ⟨b, o, e, (hb.cell (World.block_lt_of_cell? _ _ h1)).trans h1, (hb.cell (World.block_lt_of_cell? _ _ h2)).trans h2⟩
/-- Blocks between two bounds. -/
def In (lo hi g : Nat) (v : Value) : Prop := (lo ≤ g ∧ g < hi) ∧ ∀ k, v.ownBlock = some k → lo ≤ k ∧ k < hi
theorem askS_bs (s : Reader.St) (k n : Int) : (askS s k n).bs = s.bs := by
  have ht : s.textS.bs = s.bs := by
    unfold Reader.St.textS
    split
    · show ((s.takeS 2).takeS s.textN).bs = s.bs
      rw [Reader.takeS_bs, Reader.takeS_bs]
    · rw [Reader.takeS_bs, Reader.takeS_bs]
  unfold askS
  split
  · exact Reader.takeS_bs _ _
  · split
    · exact Reader.takeS_bs _ _
    · split
      · exact Reader.takeS_bs _ _
      · split
        · exact Reader.takeS_bs _ _
        · split
          · exact Reader.takeS_bs _ _
          · split
            · exact ht
            · rfl
section
variable {W W' : World} {base g : Nat} {A : Option Addr} {c : Nat} {s : Reader.St}
theorem moveR (h : Reader.Is W base g A c s) {l : List Int} (hl : s.bs = l) {lo hi : Nat} (hin : In lo hi g (.slice A l.length c)) (hm : ∀ k, lo ≤ k → k < hi → k < W.heap.size → W'.heap[k]? = W.heap[k]?) : Reader.Is W' base g A c s := by
  subst hl
  refine h.move (fun k hk => ?_)
  rcases hk with rfl | hk
  · exact hm _ hin.1.1 hin.1.2 h.lt
  · exact hm k (hin.2 k hk).1 (hin.2 k hk).2 (h.lt' k hk).2
theorem moveV (h : RReader.Is W base g A c s) {l : List Int} (hl : s.bs = l) {lo hi : Nat} (hin : In lo hi g (.slice A l.length c)) (hm : ∀ k, lo ≤ k → k < hi → k < W.heap.size → W'.heap[k]? = W.heap[k]?) : RReader.Is W' base g A c s := by
  subst hl
  refine h.move (fun k hk => ?_)
  rcases hk with rfl | hk
  · exact hm _ hin.1.1 hin.1.2 h.lt
  · exact hm k (hin.2 k hk).1 (hin.2 k hk).2 (h.lt' k hk).2
end
theorem two_below {B g g' : Nat} {w0 w w' : World} (h : Two g g' w w') (hb : Below B w0 w) (h1 : B ≤ g) (h2 : B ≤ g') (hB : B ≤ w0.heap.size) : Below B w0 w' :=
  hb.trans ⟨h.os, h.tape, h.output, h.size, fun k hk => h.block k (Nat.lt_of_lt_of_le hk (Nat.le_trans hB hb.size)) (by omega) (by omega)⟩

set_option maxRecDepth 100000 in
set_option maxHeartbeats 4000000 in
theorem law (A0 : Option Addr) (c0 : Nat) (l0 : List Int) (A1 : Option Addr) (c1 : Nat) (l1 : List Int) (A2 : Option Addr) (c2 : Nat) (xs : List (Int × Int)) (w : World)
    (hr0 : Kd.C (Kd.int .u8) w A0 l0.length l0) (hc0 : l0.length ≤ c0) (y0 : l0.length ≤ 140737488351232) (z0 : ∀ x ∈ l0, 0 ≤ x ∧ x < 256)
    (hr1 : Kd.C (Kd.int .u8) w A1 l1.length l1) (hc1 : l1.length ≤ c1) (y1 : l1.length ≤ 140737488351232) (z1 : ∀ x ∈ l1, 0 ≤ x ∧ x < 256)
    (hI : Reads w A2 xs) (hxw : ∀ x ∈ xs, -9223372036854775808 ≤ x.2 ∧ x.2 ≤ 9223372036854775807) (hc2 : xs.length ≤ c2) (y2 : xs.length ≤ 9223372036854775807) :
    Calls Try.prog 4 #[.slice A0 l0.length c0, .slice A1 l1.length c1, .slice A2 xs.length c2] w fun e w' => e = .returned (.bool true) ∧ Below w.heap.size w w' := by
  by_cases hfar : 131072 < l0.length + l1.length ∨ 4096 < xs.length
  · exact law_far A0 c0 l0.length A1 c1 l1.length A2 c2 xs.length w hfar y0 y1 y2
  · have hw : IntKind.i64.wrap ((l0.length : Int) + (l1.length : Int)) = (l0.length : Int) + (l1.length : Int) := IntWalk.i64_in _ (by omega)
    have hx2 : ¬ (l0.length : Int) + (l1.length : Int) > 131072 := by omega
    have hl : l0.length + l1.length ≤ 131072 := by omega
    have hn : xs.length ≤ 4096 := by omega
    have HR0 := Lib.hid hr0
    have HR1 := Lib.hid hr1
    have HI := Lib.hid hI
    have HXW := Lib.hid hxw
    have F0 := Lib.hid z0
    have F1 := Lib.hid z1
    have RC := Lib.hid (Room.roomy_calls A0 c0 l0 w hr0 hc0 (by omega))
    clear hfar hr0 hr1 hI hxw y0 y1 y2 z0 z1
    go_enter Try.func4, Try.ntmps4
    go_wp2_with fail
    refine RC.out.mono ?_
    rintro e w1 ⟨v, rfl, hroom, hb⟩
    have hroom' := hroom
    obtain ⟨gq, cap, rfl, hcap, hown⟩ := hroom'
    have hq : w.heap.size ≤ gq ∧ gq < w1.heap.size := ⟨own_base hown gq rfl, own_lt hown gq rfl⟩
    obtain ⟨A3, c3, e3, hc3, hC3⟩ := hroom.reads
    obtain ⟨rfl, -, rfl⟩ := Value.slice.inj e3
    clear e3 hown
    have ROOM := Lib.hid hroom
    have B1 := Lib.hid hb
    have C1 := Lib.hid hC3
    clear hroom hb hC3 RC
    go_wp2_with fail
    refine (Reader.Read_calls _ cap l0 w1 C1.out (by omega)).mono ?_
    rintro e w2 ⟨g1, A4, c4, rfl, hI1, hb⟩
    have HG1 := Lib.hid hI1
    have IN1 := Lib.hid (show In w1.heap.size w2.heap.size g1 (.slice A4 l0.length c4) from ⟨⟨hI1.base, hI1.lt⟩, fun k hk => hI1.lt' k hk⟩)
    have ROOM2 := Lib.hid (ROOM.out.below hb)
    have B2 : Hid (Below w.heap.size w w2) := B1.out.trans (hb.mono B1.out.size)
    have L12 : Hid (w1.heap.size ≤ w2.heap.size) := hb.size
    have CC2 := Lib.hid (Kd.C_below HR1.out B2.out)
    clear hI1 hb ROOM B1 C1
    go_wp2_with fail
    refine (PA.ciboriumref00_CopyBytes.calls A1 c1 l1 l1 _ CC2.out hc1 (copy_f l1 (by omega))).mono ?_
    rintro e w3 ⟨v3, rfl, hR3, hb⟩
    obtain ⟨A5, c5, rfl, hc5, hC5⟩ := (Row.of_R hR3).reads
    have C5 := Lib.hid hC5
    have HG13 := Lib.hid (HG1.out.below hb)
    have ROOM3 := Lib.hid (ROOM2.out.below hb)
    have B3 : Hid (Below w.heap.size w w3) := B2.out.trans (hb.mono B2.out.size)
    have L23 : Hid (w2.heap.size ≤ w3.heap.size) := hb.size
    clear hR3 hb hC5 HG1 ROOM2 B2 CC2
    go_wp2_with fail
    refine (Reader.Read_calls A5 c5 l1 w3 C5.out (by omega)).mono ?_
    rintro e w4 ⟨g2, A6, c6, rfl, hI2, hb⟩
    have HG2 := Lib.hid hI2
    have IN2 := Lib.hid (show In w3.heap.size w4.heap.size g2 (.slice A6 l1.length c6) from ⟨⟨hI2.base, hI2.lt⟩, fun k hk => hI2.lt' k hk⟩)
    have HG14 := Lib.hid (HG13.out.below hb)
    have ROOM4 := Lib.hid (ROOM3.out.below hb)
    have B4 : Hid (Below w.heap.size w w4) := B3.out.trans (hb.mono B3.out.size)
    have L34 : Hid (w3.heap.size ≤ w4.heap.size) := hb.size
    have CC4 := Lib.hid (Kd.C_below HR0.out B4.out)
    clear hI2 hb HG13 ROOM3 B3 C5
    go_wp2_with fail
    refine (Room.kept_calls _ _ A0 c0 l0 _ ROOM4.out CC4.out hc0).mono ?_
    rintro e w5 ⟨rfl, n5, rfl⟩
    have HG15 := Lib.hid (HG14.out.drewN n5)
    have HG25 := Lib.hid (HG2.out.drewN n5)
    have B5 := Lib.hid (pw_below_drewN B4.out n5)
    have L45 : Hid (w4.heap.size ≤ (w4.drewN n5).heap.size) := Nat.le_refl _
    have ROW5 : Hid (∃ m : List Int, m.length = l0.length + 7 ∧ Row.Is (w4.drewN n5) w.heap.size (.slice (some ⟨gq, 0, none⟩) (l0.length + 7) cap) m) := by
      obtain ⟨g', cap', e', _, ho⟩ := ROOM4.out.drewN n5
      obtain ⟨ea, -, rfl⟩ := Value.slice.inj e'
      injection ea with ea
      injection ea with ea
      subst ea
      refine ⟨l0 ++ Room.tail7, by simp [Room.tail7], ?_⟩
      unfold Row.Is
      rw [show (l0 ++ Room.tail7).length = l0.length + 7 by simp [Room.tail7]]
      exact ho
    clear HG14 HG2 B4 CC4 ROOM4
    generalize w4.drewN n5 = w5 at *
    go_wp2_with fail
    go_loopw [10] (fun v10 wr => ∃ i : Nat, i ≤ l0.length ∧ v10 = .int .i64 (i : Int) ∧ Hid (∃ m : List Int, m.length = l0.length + 7 ∧ Row.Is wr w.heap.size (.slice (some ⟨gq, 0, none⟩) (l0.length + 7) cap) m) ∧ Hid (Reader.Is wr w1.heap.size g1 A4 c4 ⟨l0, 0, 0⟩) ∧ Hid (Reader.Is wr w3.heap.size g2 A6 c6 ⟨l1, 0, 0⟩) ∧ Hid (Below w.heap.size w wr) ∧ Hid (w4.heap.size ≤ wr.heap.size)) (fun v10 _ => 200000 - (intOf v10).toNat)
    case atStart => exact ⟨0, by omega, rfl, ROW5, HG15, HG25, B5, L45⟩
    case round =>
      obtain ⟨i, hi, rfl, ROW, H1, H2, B, L⟩ := hrel
      by_cases hlt : i < l0.length
      · obtain ⟨m, hm, hR⟩ := ROW.out
        obtain ⟨hc, hfr⟩ := hR.cell i (by omega)
        have HR := Lib.hid hR
        clear HG15 HG25 B5 L45 ROW5 ROW hR
        generalize m.getD i 0 = x at *
        go_wp2
        go_roundw
        case rel => exact ⟨i + 1, by omega, by go_num, ⟨_, by simpa using hm, HR.out.store i _⟩, moveR H1.out rfl IN1.out (fun k h1 h2 _ => Below.heap_setCell _ _ _ _ (by show k ≠ gq; omega)), moveR H2.out rfl IN2.out (fun k h1 h2 _ => Below.heap_setCell _ _ _ _ (by show k ≠ gq; have := L12.out; have := L23.out; omega)), B.out.setCell hq.1 _, Nat.le_trans L.out (by simp [World.setCell])⟩
        case measure => simp [intOf]; omega
      · obtain rfl : i = l0.length := by omega
        clear HG15 HG25 B5 L45 ROW5 ROW hlt hi
        generalize wr = wz at *
        have CC := Lib.hid (Kd.C_below HR0.out B.out)
        go_wp2_with fail
        refine (RReader.Read_calls A0 c0 l0 wz CC.out (by omega)).mono ?_
        rintro e w6 ⟨g3, A7, c7, rfl, hI3, hb⟩
        have HG3 := Lib.hid hI3
        have IN3 := Lib.hid (show In wz.heap.size w6.heap.size g3 (.slice A7 l0.length c7) from ⟨⟨hI3.base, hI3.lt⟩, fun k hk => hI3.lt' k hk⟩)
        have H16 := Lib.hid (H1.out.below hb)
        have H26 := Lib.hid (H2.out.below hb)
        have B6 : Hid (Below w.heap.size w w6) := B.out.trans (hb.mono B.out.size)
        have L6 : Hid (wz.heap.size ≤ w6.heap.size) := hb.size
        have CC6 := Lib.hid (Kd.C_below HR1.out B6.out)
        clear hI3 hb H1 H2 B CC
        go_wp2_with fail
        refine (RReader.Read_calls A1 c1 l1 w6 CC6.out (by omega)).mono ?_
        rintro e w7 ⟨g4, A8, c8, rfl, hI4, hb⟩
        have HG4 := Lib.hid hI4
        have IN4 := Lib.hid (show In w6.heap.size w7.heap.size g4 (.slice A8 l1.length c8) from ⟨⟨hI4.base, hI4.lt⟩, fun k hk => hI4.lt' k hk⟩)
        have H17 := Lib.hid (H16.out.below hb)
        have H27 := Lib.hid (H26.out.below hb)
        have HG37 := Lib.hid (HG3.out.below hb)
        have B7 : Hid (Below w.heap.size w w7) := B6.out.trans (hb.mono B6.out.size)
        clear hI4 hb H16 H26 HG3 B6 CC6
        have LL : Hid (w.heap.size ≤ w1.heap.size ∧ w1.heap.size ≤ w2.heap.size ∧ w2.heap.size ≤ w3.heap.size ∧ w3.heap.size ≤ w4.heap.size ∧ w4.heap.size ≤ wz.heap.size ∧ wz.heap.size ≤ w6.heap.size) := ⟨Nat.le_of_lt (Nat.lt_of_le_of_lt hq.1 hq.2), L12.out, L23.out, L34.out, L.out, L6.out⟩
        clear L12 L23 L34 L L6
        go_wp2_with fail
        go_loopw [13] (fun v13 wr => ∃ i : Nat, ∃ s1 s2 : Reader.St, i ≤ xs.length ∧ v13 = .int .i64 (i : Int) ∧ Hid (s1.bs = l0) ∧ Hid (s2.bs = l1) ∧ Hid (Reader.Is wr w1.heap.size g1 A4 c4 s1) ∧ Hid (Reader.Is wr w3.heap.size g2 A6 c6 s2) ∧ Hid (RReader.Is wr wz.heap.size g3 A7 c7 s1) ∧ Hid (RReader.Is wr w6.heap.size g4 A8 c8 s2) ∧ Hid (Below w.heap.size w wr)) (fun v13 _ => 200000 - (intOf v13).toNat)
        case atStart => exact ⟨0, _, _, by omega, rfl, Lib.hid rfl, Lib.hid rfl, H17, H27, HG37, HG4, B7⟩
        case round =>
          obtain ⟨i, s1, s2, hi, rfl, E1, E2, H1, H2, V1, V2, B⟩ := hrel
          clear H17 H27 HG37 HG4 B7
          by_cases hlt : i < xs.length
          · obtain ⟨b, o, rfl, x0, x1⟩ := HI.out.below B.out i hlt
            have hxn := HXW.out _ (List.getElem_mem hlt)
            have HI2 := Lib.hid (fun (W : World) (hb : Below w.heap.size w W) => HI.out.below hb i hlt)
            generalize xs[i].1 = k at *
            generalize xs[i].2 = n at *
            have N := Lib.hid hxn
            clear hxn
            have f1 : Fine s1 := ⟨by rw [E1.out]; omega, by rw [E1.out]; exact F0.out⟩
            have f2 : Fine s2 := ⟨by rw [E2.out]; omega, by rw [E2.out]; exact F1.out⟩
            have HA := Lib.hid (asked_calls g1 _ g3 _ A4 A7 c4 c7 s1 k n wr H1.out V1.out f1 N.out.1 N.out.2)
            have FF2 := Lib.hid f2
            clear f1 f2
            go_wp2_with fail
            refine HA.out.mono ?_
            rintro e w8 ⟨rfl, hH1, hV1, hT⟩
            obtain ⟨l1', l2', l3', l4', l5', l6'⟩ := LL.out
            have i1 := IN1.out.1
            have i2 := IN2.out.1
            have i3 := IN3.out.1
            have i4 := IN4.out.1
            have H28 := Lib.hid (moveR H2.out E2.out IN2.out (fun q h1 h2 h3 => hT.block q h3 (by omega) (by omega)))
            have V28 := Lib.hid (moveV V2.out E2.out IN4.out (fun q h1 h2 h3 => hT.block q h3 (by omega) (by omega)))
            have B8 := Lib.hid (two_below hT B.out (by omega) (by omega) (Nat.le_refl _))
            have H18 := Lib.hid hH1
            have V18 := Lib.hid hV1
            obtain ⟨b', o', e', x0', x1'⟩ := HI2.out w8 B8.out
            injection e' with e'
            injection e' with e1' e2' _
            subst e1' e2'
            clear hH1 hV1 hT H1 H2 V1 V2 B HA x0 x1 l1' l2' l3' l4' l5' l6' i1 i2 i3 i4 HI2
            have HA := Lib.hid (asked_calls g2 _ g4 _ A6 A8 c6 c8 s2 k n w8 H28.out V28.out FF2.out N.out.1 N.out.2)
            go_wp2_with fail
            refine HA.out.mono ?_
            rintro e w9 ⟨rfl, hH2, hV2, hT⟩
            obtain ⟨l1', l2', l3', l4', l5', l6'⟩ := LL.out
            have i1 := IN1.out.1
            have i2 := IN2.out.1
            have i3 := IN3.out.1
            have i4 := IN4.out.1
            have e1 : (askS s1 k n).bs = l0 := (askS_bs _ _ _).trans E1.out
            have e2 : (askS s2 k n).bs = l1 := (askS_bs _ _ _).trans E2.out
            have H19 := Lib.hid (moveR H18.out e1 IN1.out (fun q h1 h2 h3 => hT.block q h3 (by omega) (by omega)))
            have V19 := Lib.hid (moveV V18.out e1 IN3.out (fun q h1 h2 h3 => hT.block q h3 (by omega) (by omega)))
            have B9 := Lib.hid (two_below hT B8.out (by omega) (by omega) (Nat.le_refl _))
            have H29 := Lib.hid hH2
            have V29 := Lib.hid hV2
            have E1' := Lib.hid e1
            have E2' := Lib.hid e2
            clear hH2 hV2 hT H18 H28 V18 V28 B8 HA x0' x1' e1 e2 l1' l2' l3' l4' l5' l6' i1 i2 i3 i4
            go_wp2_with fail
            go_roundw
            case rel => exact ⟨i + 1, _, _, by omega, by go_num, E1', E2', H19, H29, V19, V29, B9⟩
            case measure => simp [intOf]; omega
          · obtain rfl : i = xs.length := by omega
            clear hlt hi
            go_wp2_with fail
            refine (Works.works _).mono ?_
            rintro e w8 ⟨rfl, hb⟩
            have B8 : Hid (Below w.heap.size w w8) := B.out.trans (hb.mono B.out.size)
            clear hb B
            go_wp2
            go_ret
            exact ⟨rfl, B8.out⟩
end Go.Proofs.Ytengdchgfhcdhaa.HOctetReads
