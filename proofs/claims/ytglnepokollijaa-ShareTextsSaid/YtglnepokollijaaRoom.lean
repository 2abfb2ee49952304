/- What is said here: Roomy makes the same bytes with seven more behind them; Kept finds them so. -/
import Derived.Test.YtglnepokollijaaPAx
import Derived.Outline
import Derived.Lib.Hide
namespace Go.Proofs.Ytglnepokollijaa.Room
set_option linter.unusedVariables false
set_option linter.unusedSimpArgs false
open Go.RowKit Go.Proofs.Ytglnepokollijaa.PA Go.Proofs.YtglnepokollijaaW.PrintWords Go.Proofs.YtglnepokollijaaW.PrintLast Go.Proofs.YtglnepokollijaaW.PrintMore

def tail7 : List Int := [201, 202, 203, 204, 205, 206, 207]
/-- v is the row l with the seven behind it. -/
def Is (W : World) (base : Nat) (v : Value) (l : List Int) : Prop :=
  ∃ g cap, v = .slice (some ⟨g, 0, none⟩) l.length cap ∧ l.length + 7 ≤ cap ∧ W.ownsRow base 5 1 (.slice (some ⟨g, 0, none⟩) (l.length + 7) cap) (l.length + 7) (encs (Value.int .u8) (l ++ tail7))

theorem Is.below {W W' : World} {base : Nat} {v : Value} {l : List Int} (h : Is W base v l) (hb : Below W.heap.size W W') : Is W' base v l := by
  obtain ⟨g, cap, e, hc, ho⟩ := h
  exact ⟨g, cap, e, hc, pw_own_below ho hb⟩

theorem Is.drewN {W : World} {base : Nat} {v : Value} {l : List Int} (h : Is W base v l) (n : Nat) : Is (W.drewN n) base v l := h

theorem R_of_own {W : World} {base n : Nat} {v : Value} {l : List Int} (h : W.ownsRow base 5 1 v n (encs (Value.int .u8) l)) (hn : n = l.length) : Kd.R (Kd.int .u8) 5 W base (fun _ => True) v l := by
  subst hn
  refine ⟨fun _ _ => trivial, encs (Value.int .u8) l, h, ?_⟩
  exact Kd.reps_scalar l
theorem own_of_R {W : World} {base : Nat} {ok : Nat → Prop} {v : Value} {l : List Int} (h : Kd.R (Kd.int .u8) 5 W base ok v l) : W.ownsRow base 5 1 v l.length (encs (Value.int .u8) l) := by
  obtain ⟨_, inner, ho, hr⟩ := h
  have : inner = encs (Value.int .u8) l := Kd.reps_encs hr
  subst this
  exact ho

/-- What is read of it. -/
theorem Is.reads {W : World} {base : Nat} {v : Value} {l : List Int} (h : Is W base v l) : ∃ A c, v = .slice A l.length c ∧ l.length ≤ c ∧ Kd.C (Kd.int .u8) W A l.length l := by
  obtain ⟨g, cap, e, hc, ho⟩ := h
  have hR := R_of_own ho (l := l ++ tail7) (by simp [tail7])
  have h2 := Kd.R_take (m := l.length) hR (by simp)
  rw [List.take_left] at h2
  exact ⟨_, _, e, by omega, (Kd.R_reads' h2).2.2⟩

theorem infoB : (Try.prog.info? 5).map (fun i => (i.zero, i.size, i.bytes)) = some (some (.int .u8 0), 1, 1) := by kernel_rfl
theorem tail_at (j : Nat) (h : j < 7) : tail7.take (j + 1) = tail7.take j ++ [201 + (j : Int)] := by
  match j, h with
  | 0, _ => rfl
  | 1, _ => rfl
  | 2, _ => rfl
  | 3, _ => rfl
  | 4, _ => rfl
  | 5, _ => rfl
  | 6, _ => rfl

set_option maxHeartbeats 2000000 in
theorem roomy_calls (A0 : Option Addr) (c0 : Nat) (l0 : List Int) (w : World) (hr0 : Kd.C (Kd.int .u8) w A0 l0.length l0) (hc0 : l0.length ≤ c0) (hlen : l0.length ≤ 100000000000000) :
    Calls Try.prog 9 #[.slice A0 l0.length c0] w fun e w' => ∃ v, e = .returned v ∧ Is w' w.heap.size v l0 ∧ Below w.heap.size w w' := by
  have hcp := ciboriumref00_CopyBytes.calls A0 c0 l0 l0 w hr0 hc0 (by unfold ciboriumref00_CopyBytes.f; rw [if_pos (by simp; omega)]; rfl)
  have HCP := Lib.hid hcp
  clear hcp hr0
  go_enter Try.func9, Try.ntmps9
  go_wp2_with fail
  refine HCP.out.mono ?_
  rintro e w1 ⟨v, rfl, ho, hb⟩
  clear HCP
  go_wp2_with fail
  go_loopw [3, 4] (fun v3 v4 wr => ∃ j : Nat, j ≤ 7 ∧ v4 = .int .i64 (j : Int) ∧ Aside0 (Kd.R (Kd.int .u8) 5 wr w.heap.size (fun _ => True) v3 (l0 ++ tail7.take j)) ∧ Aside0 (Below w.heap.size w wr)) (fun _ v4 _ => 7 - (intOf v4).toNat)
  case atStart => exact ⟨0, by omega, rfl, ⟨by simpa using ho⟩, ⟨hb⟩⟩
  case round =>
    obtain ⟨j, hj, rfl, HO, HB⟩ := hrel
    by_cases hlt : j < 7
    · go_wp2_with (first | ((with_reducible refine gate_builtin (b := .append) (xs := #[.tmp 11, .tmp 15]) rfl ?_); at_builtin; refine Kd.R_append (Kd.int .u8) (w0 := w) w.heap.size rfl (.tmp 11) (.tmp 15) 22 5 (.int .u8 0) 1 rfl Try.underlying22 infoB rfl (by decide) (by omega) u3 (l0 ++ tail7.take j) (201 + (j : Int)) [.int .u8 (201 + (j : Int))] (fun _ => True) (fun _ => False) rfl rfl ?aP (fun _ hk => hk.elim) ?aF ?aO ?aB ?aS ?aL ?_; (case aP => exact rfl); (case aB => exact HB.out); (case aF => exact (fun _ _ => trivial)); (case aO => exact HO.out); (case aS => exact HB.out.size); (case aL => simp [tail7]; omega); intro v112 w6 ho hb hg hat; have HB' := Aside0.mk hb; have HO' := Aside0.mk ho; clear HB HO ho hb hg hat))
      go_roundw
      case rel => exact ⟨j + 1, by omega, by go_num, ⟨by rw [tail_at j hlt, ← List.append_assoc]; exact HO'.out⟩, HB'⟩
      case measure => simp [intOf]; omega
    · obtain rfl : j = 7 := by omega
      have hO : Kd.R (Kd.int .u8) 5 wr w.heap.size (fun _ => True) u3 (l0 ++ tail7) := HO.out
      have hown := own_of_R hO
      rw [show (l0 ++ tail7).length = l0.length + 7 by simp [tail7]] at hown
      have hex : ∃ g cap, u3 = .slice (some ⟨g, 0, none⟩) (l0.length + 7) cap ∧ l0.length + 7 ≤ cap := by
        rcases hown.2 with ⟨_, h⟩ | ⟨g, cap, cur, e, _, _, h1, _⟩
        · omega
        · exact ⟨g, cap, e, h1⟩
      obtain ⟨g, cap, rfl, hcap⟩ := hex
      obtain ⟨i0, hi0, _, hsz0, _⟩ := info_parts infoB
      have hcut := cut_to (P := Try.prog) 22 5 .i64 Try.underlying22 hi0 (some ⟨g, 0, none⟩) (l0.length + 7) cap (l0.length : Int) (by omega) (by omega) hcap
      rw [Int.toNat_natCast] at hcut
      have HO' := Aside0.mk hown
      clear HO hO hown hi0 hsz0
      go_wp2
      go_ret
      exact ⟨_, rfl, ⟨g, cap, rfl, hcap, HO'.out⟩, HB.out⟩

theorem tail_get (l : List Int) (j : Nat) (h : j < 7) : (l ++ tail7).getD (l.length + j) 0 = 201 + (j : Int) := by
  rw [List.getD_eq_getElem?_getD, List.getElem?_append_right (by omega), Nat.add_sub_cancel_left]
  match j, h with
  | 0, _ => rfl
  | 1, _ => rfl
  | 2, _ => rfl
  | 3, _ => rfl
  | 4, _ => rfl
  | 5, _ => rfl
  | 6, _ => rfl

theorem cut_over {P : Program} (t e : TypeId) (kh : IntKind) {i : TypeInfo} (ht : P.underlying t = some (.slice e)) (hi : P.info? e = some i) (A : Option Addr) (n c : Nat) (j : Int) (h0 : 0 ≤ j) (hm : j ≤ c) :
    ∀ W : World, (Instr.slice t (.slice A n c) none (some (.int kh j)) none).run P W = .ok (.slice A j.toNat c) W := by
  intro W
  have hel : P.elem t = e := by simp [Program.elem, ht]
  have hu : P.underlying t = some (.slice (P.elem t)) := by rw [hel]; exact ht
  have ha : (A.map fun x => x.add 0) = A := by cases A <;> simp [Addr.add]
  rw [run_slice_h W t A n c hu kh j h0 (by omega), hel]
  simp [sizeOf, typeInfo, hi, sliced, Result.andThen, ha]
/-- Kept finds what Roomy made, and nobody has touched, as it was. -/
theorem kept_calls (base : Nat) (v : Value) (A1 : Option Addr) (c1 : Nat) (l : List Int) (w : World) (hroom : Is w base v l) (hr1 : Kd.C (Kd.int .u8) w A1 l.length l) (hc1 : l.length ≤ c1) :
    Calls Try.prog 13 #[v, .slice A1 l.length c1] w fun e w' => e = .returned (.bool true) ∧ Drawn0 w w' := by
  obtain ⟨A0, c0, e0, hc0, hr0⟩ := hroom.reads
  have heq := ciboriumref00_EqBytes.calls A0 c0 l A1 c1 l true w hr0 hc0 hr1 hc1 (by unfold ciboriumref00_EqBytes.f; simp)
  rw [← e0] at heq
  have HEQ := Lib.hid heq
  clear heq hr0 hr1 e0
  obtain ⟨g, cap, rfl, hcap, hown⟩ := hroom
  have hm : l.length + 7 ≤ 9223372036854775807 := by
    rcases hown.2 with ⟨_, h⟩ | ⟨g, cap, cur, e, _, _, h1, h2, _⟩
    · omega
    · injection e with _ _ e3
      unfold maxLen at h2
      omega
  have hcell : ∀ j : Nat, j < 7 → w.cell? ⟨g, l.length + j, none⟩ = some (.int .u8 (201 + (j : Int))) := by
    intro j hj
    have := own_at_of (d := (0 : Int)) hown ((l.length + j : Nat) : Int) (by omega) (by simp [tail7]; omega)
    rw [Int.toNat_natCast] at this
    rw [this.1]
    show some (Value.int .u8 ((l ++ tail7).getD ((l.length + j : Nat) : Int).toNat 0)) = _
    rw [Int.toNat_natCast, tail_get l j hj]
  have HC := Lib.hid hcell
  obtain ⟨i0, hi0, _, hsz0, _⟩ := info_parts infoB
  have hcut := cut_over (P := Try.prog) 22 5 .i64 Try.underlying22 hi0 (some ⟨g, 0, none⟩) l.length cap ((l.length : Int) + 7) (by omega) (by omega)
  rw [show ((l.length : Int) + 7).toNat = l.length + 7 by omega] at hcut
  clear hcell hown hi0 hsz0
  go_enter Try.func13, Try.ntmps13
  go_wp2_with fail
  refine HEQ.out.mono ?_
  rintro e w1 ⟨rfl, ⟨nd, rfl⟩⟩
  clear HEQ
  go_wp2_with fail
  go_loop [6] (fun v6 => ∃ j : Nat, j ≤ 7 ∧ v6 = .int .i64 (j : Int)) (fun v6 => 7 - (intOf v6).toNat)
  case atStart => exact ⟨0, by omega, rfl⟩
  case round =>
    obtain ⟨j, hj, rfl⟩ := hrel
    by_cases hlt : j < 7
    · have hc := HC.out j hlt
      go_wp2
      go_round
      case rel => exact ⟨j + 1, by omega, by go_num⟩
      case measure => simp [intOf]; omega
    · obtain rfl : j = 7 := by omega
      go_wp2
      go_ret
      exact ⟨rfl, ⟨nd, rfl⟩⟩
end Go.Proofs.Ytglnepokollijaa.Room
