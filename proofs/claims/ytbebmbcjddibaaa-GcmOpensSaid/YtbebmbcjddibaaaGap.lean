/- What is said here: Roomy, Kept and Apart; one contract of Seal and Open for all lengths; rows that share no memory. -/
import Derived.Test.YtbebmbcjddibaaaPGx
import Derived.Outline
import Derived.Lib.Hide
import Derived.Test.YtbebmbcjddibaaaRow
import Derived.Test.YtbebmbcjddibaaaBlk
import Derived.ArgAppend
import Derived.BigQuiet
import Derived.Deep.QuietTactic
import Derived.Test.YtbebmbcjddibaaaGm4
/- What is said here: Roomy makes the same bytes with seven more behind them; Kept finds them so. -/
namespace Go.Proofs.Ytbebmbcjddibaaa.Room
set_option linter.unusedVariables false
set_option linter.unusedSimpArgs false
open Go.RowKit Go.Proofs.Ytbebmbcjddibaaa.PG Go.Proofs.YtbebmbcjddibaaaW.PrintWords Go.Proofs.YtbebmbcjddibaaaW.PrintLast Go.Proofs.YtbebmbcjddibaaaW.PrintMore

def tail7 : List Int := [201, 202, 203, 204, 205, 206, 207]
/-- v is the row l with the seven behind it. -/
def Is (W : World) (base : Nat) (v : Value) (l : List Int) : Prop :=
  ∃ g cap, v = .slice (some ⟨g, 0, none⟩) l.length cap ∧ l.length + 7 ≤ cap ∧ W.ownsRow base 5 1 (.slice (some ⟨g, 0, none⟩) (l.length + 7) cap) (l.length + 7) (encs (Value.int .u8) (l ++ tail7))

theorem Is.below {W W' : World} {base : Nat} {v : Value} {l : List Int} (h : Is W base v l) (hb : Below W.heap.size W W') : Is W' base v l := by
  obtain ⟨g, cap, e, hc, ho⟩ := h
  exact ⟨g, cap, e, hc, pw_own_below ho hb⟩

theorem Is.drewN {W : World} {base : Nat} {v : Value} {l : List Int} (h : Is W base v l) (n : Nat) : Is (W.drewN n) base v l := h

theorem R_of_own {W : World} {base n : Nat} {v : Value} {l : List Int} (h : W.ownsRow base 5 1 v n (encs (Value.int .u8) l)) (hn : n = l.length) : Kd.R (Kd.int .u8) 5 W base (fun _ => True) v l := by
  subst hn
  refine ⟨fun _ _ => trivial, encs (Value.int .u8) l, h, ?_⟩
  exact Kd.reps_scalar l
theorem own_of_R {W : World} {base : Nat} {ok : Nat → Prop} {v : Value} {l : List Int} (h : Kd.R (Kd.int .u8) 5 W base ok v l) : W.ownsRow base 5 1 v l.length (encs (Value.int .u8) l) := by
  obtain ⟨_, inner, ho, hr⟩ := h
  have : inner = encs (Value.int .u8) l := Kd.reps_encs hr
  subst this
  exact ho

/-- What is read of it. -/
theorem Is.reads {W : World} {base : Nat} {v : Value} {l : List Int} (h : Is W base v l) : ∃ A c, v = .slice A l.length c ∧ l.length ≤ c ∧ Kd.C (Kd.int .u8) W A l.length l := by
  obtain ⟨g, cap, e, hc, ho⟩ := h
  have hR := R_of_own ho (l := l ++ tail7) (by simp [tail7])
  have h2 := Kd.R_take (m := l.length) hR (by simp)
  rw [List.take_left] at h2
  exact ⟨_, _, e, by omega, (Kd.R_reads' h2).2.2⟩

theorem infoB : (Try.prog.info? 5).map (fun i => (i.zero, i.size, i.bytes)) = some (some (.int .u8 0), 1, 1) := by kernel_rfl
theorem tail_at (j : Nat) (h : j < 7) : tail7.take (j + 1) = tail7.take j ++ [201 + (j : Int)] := by
  match j, h with
  | 0, _ => rfl
  | 1, _ => rfl
  | 2, _ => rfl
  | 3, _ => rfl
  | 4, _ => rfl
  | 5, _ => rfl
  | 6, _ => rfl

set_option maxHeartbeats 2000000 in
theorem roomy_calls (A0 : Option Addr) (c0 : Nat) (l0 : List Int) (w : World) (hr0 : Kd.C (Kd.int .u8) w A0 l0.length l0) (hc0 : l0.length ≤ c0) (hlen : l0.length ≤ 100000000000000) :
    Calls Try.prog 9 #[.slice A0 l0.length c0] w fun e w' => ∃ v, e = .returned v ∧ Is w' w.heap.size v l0 ∧ Below w.heap.size w w' := by
  have hcp := ciboriumref00_CopyBytes.calls A0 c0 l0 l0 w hr0 hc0 (by unfold ciboriumref00_CopyBytes.f; rw [if_pos (by simp; omega)]; rfl)
  have HCP := Lib.hid hcp
  clear hcp hr0
  go_enter Try.func9, Try.ntmps9
  go_wp2_with fail
  refine HCP.out.mono ?_
  rintro e w1 ⟨v, rfl, ho, hb⟩
  clear HCP
  go_wp2_with fail
  go_loopw [3, 4] (fun v3 v4 wr => ∃ j : Nat, j ≤ 7 ∧ v4 = .int .i64 (j : Int) ∧ Aside0 (Kd.R (Kd.int .u8) 5 wr w.heap.size (fun _ => True) v3 (l0 ++ tail7.take j)) ∧ Aside0 (Below w.heap.size w wr)) (fun _ v4 _ => 7 - (intOf v4).toNat)
  case atStart => exact ⟨0, by omega, rfl, ⟨by simpa using ho⟩, ⟨hb⟩⟩
  case round =>
    obtain ⟨j, hj, rfl, HO, HB⟩ := hrel
    by_cases hlt : j < 7
    · go_wp2_with (first | ((with_reducible refine gate_builtin (b := .append) (xs := #[.tmp 11, .tmp 15]) rfl ?_); at_builtin; refine Kd.R_append (Kd.int .u8) (w0 := w) w.heap.size rfl (.tmp 11) (.tmp 15) 24 5 (.int .u8 0) 1 rfl Try.underlying24 infoB rfl (by decide) (by omega) u3 (l0 ++ tail7.take j) (201 + (j : Int)) [.int .u8 (201 + (j : Int))] (fun _ => True) (fun _ => False) rfl rfl ?aP (fun _ hk => hk.elim) ?aF ?aO ?aB ?aS ?aL ?_; (case aP => exact rfl); (case aB => exact HB.out); (case aF => exact (fun _ _ => trivial)); (case aO => exact HO.out); (case aS => exact HB.out.size); (case aL => simp [tail7]; omega); intro v112 w6 ho hb hg hat; have HB' := Aside0.mk hb; have HO' := Aside0.mk ho; clear HB HO ho hb hg hat))
      go_roundw
      case rel => exact ⟨j + 1, by omega, by go_num, ⟨by rw [tail_at j hlt, ← List.append_assoc]; exact HO'.out⟩, HB'⟩
      case measure => simp [intOf]; omega
    · obtain rfl : j = 7 := by omega
      have hO : Kd.R (Kd.int .u8) 5 wr w.heap.size (fun _ => True) u3 (l0 ++ tail7) := HO.out
      have hown := own_of_R hO
      rw [show (l0 ++ tail7).length = l0.length + 7 by simp [tail7]] at hown
      have hex : ∃ g cap, u3 = .slice (some ⟨g, 0, none⟩) (l0.length + 7) cap ∧ l0.length + 7 ≤ cap := by
        rcases hown.2 with ⟨_, h⟩ | ⟨g, cap, cur, e, _, _, h1, _⟩
        · omega
        · exact ⟨g, cap, e, h1⟩
      obtain ⟨g, cap, rfl, hcap⟩ := hex
      obtain ⟨i0, hi0, _, hsz0, _⟩ := info_parts infoB
      have hcut := cut_to (P := Try.prog) 24 5 .i64 Try.underlying24 hi0 (some ⟨g, 0, none⟩) (l0.length + 7) cap (l0.length : Int) (by omega) (by omega) hcap
      rw [Int.toNat_natCast] at hcut
      have HO' := Aside0.mk hown
      clear HO hO hown hi0 hsz0
      go_wp2
      go_ret
      exact ⟨_, rfl, ⟨g, cap, rfl, hcap, HO'.out⟩, HB.out⟩

theorem tail_get (l : List Int) (j : Nat) (h : j < 7) : (l ++ tail7).getD (l.length + j) 0 = 201 + (j : Int) := by
  rw [List.getD_eq_getElem?_getD, List.getElem?_append_right (by omega), Nat.add_sub_cancel_left]
  match j, h with
  | 0, _ => rfl
  | 1, _ => rfl
  | 2, _ => rfl
  | 3, _ => rfl
  | 4, _ => rfl
  | 5, _ => rfl
  | 6, _ => rfl

theorem cut_over {P : Program} (t e : TypeId) (kh : IntKind) {i : TypeInfo} (ht : P.underlying t = some (.slice e)) (hi : P.info? e = some i) (A : Option Addr) (n c : Nat) (j : Int) (h0 : 0 ≤ j) (hm : j ≤ c) :
    ∀ W : World, (Instr.slice t (.slice A n c) none (some (.int kh j)) none).run P W = .ok (.slice A j.toNat c) W := by
  intro W
  have hel : P.elem t = e := by simp [Program.elem, ht]
  have hu : P.underlying t = some (.slice (P.elem t)) := by rw [hel]; exact ht
  have ha : (A.map fun x => x.add 0) = A := by cases A <;> simp [Addr.add]
  rw [run_slice_h W t A n c hu kh j h0 (by omega), hel]
  simp [sizeOf, typeInfo, hi, sliced, Result.andThen, ha]
/-- Kept finds what Roomy made, and nobody has touched, as it was. -/
theorem kept_calls (base : Nat) (v : Value) (A1 : Option Addr) (c1 : Nat) (l : List Int) (w : World) (hroom : Is w base v l) (hr1 : Kd.C (Kd.int .u8) w A1 l.length l) (hc1 : l.length ≤ c1) :
    Calls Try.prog 13 #[v, .slice A1 l.length c1] w fun e w' => e = .returned (.bool true) ∧ Drawn0 w w' := by
  obtain ⟨A0, c0, e0, hc0, hr0⟩ := hroom.reads
  have heq := ciboriumref00_EqBytes.calls A0 c0 l A1 c1 l true w hr0 hc0 hr1 hc1 (by unfold ciboriumref00_EqBytes.f; simp)
  rw [← e0] at heq
  have HEQ := Lib.hid heq
  clear heq hr0 hr1 e0
  obtain ⟨g, cap, rfl, hcap, hown⟩ := hroom
  have hm : l.length + 7 ≤ 9223372036854775807 := by
    rcases hown.2 with ⟨_, h⟩ | ⟨g, cap, cur, e, _, _, h1, h2, _⟩
    · omega
    · injection e with _ _ e3
      unfold maxLen at h2
      omega
  have hcell : ∀ j : Nat, j < 7 → w.cell? ⟨g, l.length + j, none⟩ = some (.int .u8 (201 + (j : Int))) := by
    intro j hj
    have := own_at_of (d := (0 : Int)) hown ((l.length + j : Nat) : Int) (by omega) (by simp [tail7]; omega)
    rw [Int.toNat_natCast] at this
    rw [this.1]
    show some (Value.int .u8 ((l ++ tail7).getD ((l.length + j : Nat) : Int).toNat 0)) = _
    rw [Int.toNat_natCast, tail_get l j hj]
  have HC := Lib.hid hcell
  obtain ⟨i0, hi0, _, hsz0, _⟩ := info_parts infoB
  have hcut := cut_over (P := Try.prog) 24 5 .i64 Try.underlying24 hi0 (some ⟨g, 0, none⟩) l.length cap ((l.length : Int) + 7) (by omega) (by omega)
  rw [show ((l.length : Int) + 7).toNat = l.length + 7 by omega] at hcut
  clear hcell hown hi0 hsz0
  go_enter Try.func13, Try.ntmps13
  go_wp2_with fail
  refine HEQ.out.mono ?_
  rintro e w1 ⟨rfl, ⟨nd, rfl⟩⟩
  clear HEQ
  go_wp2_with fail
  go_loop [6] (fun v6 => ∃ j : Nat, j ≤ 7 ∧ v6 = .int .i64 (j : Int)) (fun v6 => 7 - (intOf v6).toNat)
  case atStart => exact ⟨0, by omega, rfl⟩
  case round =>
    obtain ⟨j, hj, rfl⟩ := hrel
    by_cases hlt : j < 7
    · have hc := HC.out j hlt
      go_wp2
      go_round
      case rel => exact ⟨j + 1, by omega, by go_num⟩
      case measure => simp [intOf]; omega
    · obtain rfl : j = 7 := by omega
      go_wp2
      go_ret
      exact ⟨rfl, ⟨nd, rfl⟩⟩
end Go.Proofs.Ytbebmbcjddibaaa.Room
/- What is said here: an append to a row of bytes leaves the shorter row that it came from as it was; rows of slices of bytes that a call has made; rows of bytes that share no memory. -/
namespace Go.Proofs.Ytbebmbcjddibaaa.Row
set_option linter.unusedVariables false
set_option linter.unusedSimpArgs false
open Go.RowKit Go.Proofs.YtbebmbcjddibaaaW.PrintWords Go.Proofs.YtbebmbcjddibaaaW.PrintLast Go.Proofs.YtbebmbcjddibaaaW.PrintMore

/-- A row's first elements are a row. -/
theorem Is.take {W : World} {base g n c : Nat} {l m : List Int} (h : Is W base (.slice (some ⟨g, 0, none⟩) n c) (l ++ m)) : Is W base (.slice (some ⟨g, 0, none⟩) l.length c) l := by
  have hn := h.reads'.1
  have hR := h.R (fun _ => True) (fun _ _ => trivial)
  have h2 := Kd.R_take (m := l.length) hR (by simp)
  rw [List.take_left] at h2
  exact of_R h2
/-- A block's row has one room. -/
theorem Is.cap {W : World} {base g n c n' c' : Nat} {l l' : List Int} (h : Is W base (.slice (some ⟨g, 0, none⟩) n c) l) (h' : Is W base (.slice (some ⟨g, 0, none⟩) n' c') l') : c = c' := by
  rcases h.2 with ⟨e, _⟩ | ⟨_, _, cur, e, _, hg, _, _, h3, _⟩
  · cases e
  rcases h'.2 with ⟨e', _⟩ | ⟨_, _, cur', e', _, hg', _, _, h3', _⟩
  · cases e'
  injection e with e1 _ e3
  injection e' with e1' _ e3'
  injection e1 with e1
  injection e1 with e1
  injection e1' with e1'
  injection e1' with e1'
  subst e1
  subst e1'
  rw [hg] at hg'
  injection hg' with hg'
  injection hg' with hg' _ _
  subst hg'
  omega
section
variable {W : World} {ops : Array Oper} {Q : Exit → Act → World → Prop} {a : Act} {rest : List Oper} {o : Oper}
/-- An element is appended to the row g; the row v, whose bytes g began with, stays as it was. -/
theorem appendKeep (base : Nat) (s x : Operand) (v g : Value) (l m : List Int) (b : Int) (hgd : o.guard = none) (ho : o.op = .call { callee := .builtin .append, args := #[s, x], argTypes := #[24, 24] })
    (hs : a.eval s = g) (hx : a.eval x = .slice (some ⟨W.heap.size, 0, none⟩) 1 1) (HV : Is W base v l) (HG : Is W base g (l ++ m)) (hbase : base ≤ W.heap.size) (hl : (l ++ m).length ≤ 100000000000000)
    (h : ∀ g1 w1, Is w1 base v l → Is w1 base g1 (l ++ m ++ [b]) → Below base W w1 → W.grownBy w1 g.ownBlock → (g1.ownBlock = g.ownBlock ∨ ∃ k, g1.ownBlock = some k ∧ W.heap.size ≤ k) → wpList Try.prog ops Q rest (a.put o.dst g1) w1) :
    wpList Try.prog ops Q (o :: rest) a (W.alloc (.cells #[.int .u8 b] 5)) := by
  obtain ⟨i0, hi0, hz0, hsz0, hb0⟩ := info_parts infoB
  have HV' := HV.alloc (.cells #[.int .u8 b] 5)
  have HG' := HG.alloc (.cells #[.int .u8 b] 5)
  have hnew : ∀ j u, [Value.int .u8 b][j]? = some u → (W.alloc (.cells #[.int .u8 b] 5)).cell? ((⟨W.heap.size, 0, none⟩ : Addr).add j) = some u := by
    intro j u hj
    match j, hj with
    | 0, hj =>
      injection hj with hj
      subst hj
      have := Blk.Is.cell (Blk.Is.new W #[.int .u8 b] 5) 0
      exact this
    | j + 1, hj => simp at hj
  have h1c : ∀ u ∈ [Value.int .u8 b], u.oneCell' = true := by intro u hu; simp at hu; subst hu; rfl
  rcases HG.2 with ⟨e, e0⟩ | ⟨gb, cap, cur, e, hgb, hg, hc1, hc2, hc3, hc4⟩
  · have e1 : l ++ m = [] := List.eq_nil_of_length_eq_zero (by omega)
    subst e
    rw [e1] at h
    refine wpList_append_grows _ hgd s x 24 ho 5 i0 (.int .u8 0) 1 1 Try.underlying24 hi0 hz0 hsz0 hb0 rfl (by decide) none 0 0 [] hs (fun _ => ⟨rfl, rfl⟩) rfl (fun b hb => by cases hb) ⟨W.heap.size, 0, none⟩ 1 1 [Value.int .u8 b] hx rfl hnew h1c (by omega) (by decide) (by decide) ?_
    intro g1 w1 ho1 hg1
    have hB : Below base W w1 := ((Below.refl base W).alloc hbase _).grown hg1 (by simp; omega) (fun k e => by cases e)
    refine h g1 w1 (HV'.grown hg1 (fun k _ => by simp)) ?_ hB ⟨hB.os, hB.tape, hB.output, hB.size, fun k hk _ => (hg1.block k (by simp; omega) (by simp)).trans (Below.heap_alloc W _ k hk)⟩ (.inr ?_)
    · exact own_weaken (show Is w1 _ g1 ([] ++ [b]) from ho1) (by simp; omega)
    · have hlt := Is.lt (show Is w1 _ g1 ([] ++ [b]) from ho1)
      rcases ho1.2 with ⟨_, e0⟩ | ⟨k, _, _, e, hk, _⟩
      · omega
      · exact ⟨k, by rw [e]; rfl, Nat.le_trans (by simp) hk⟩
  · have hgv : g = .slice (some ⟨gb, 0, none⟩) (l ++ m).length cap := e
    have hgb2 : gb < W.heap.size := (HG.lt gb (by rw [e]; rfl)).2
    rw [e] at hs
    by_cases hf : (l ++ m).length + 1 ≤ cap
    · refine wpList_append_fits _ hgd s x 24 ho base 5 i0 1 Try.underlying24 hi0 hsz0 gb (l ++ m).length cap (encs (Value.int .u8) (l ++ m)) hs (by rw [← e]; exact HG') ⟨W.heap.size, 0, none⟩ 1 1 [Value.int .u8 b] hx rfl hnew h1c hf ?_
      intro w1 ho1 hg1
      have hI : Is w1 base (.slice (some ⟨gb, 0, none⟩) ((l ++ m).length + 1) cap) (l ++ m ++ [b]) := by
        unfold Is
        rw [encs_append, show (l ++ m ++ [b]).length = (l ++ m).length + 1 from List.length_append]
        exact ho1
      have hgr : W.grownBy w1 (some gb) := ⟨hg1.os, hg1.tape, hg1.output, Nat.le_trans (by simp) hg1.size, fun k hk hne => (hg1.block k (by simp; omega) hne).trans (Below.heap_alloc W _ k hk)⟩
      have hB : Below base W w1 := ⟨hgr.os, hgr.tape, hgr.output, hgr.size, fun k hk => hgr.block k (by omega) (fun e => by injection e; omega)⟩
      refine h _ w1 ?_ hI hB (by rw [hgv]; exact hgr) (.inl (by rw [hgv]; rfl))
      rcases HV.2 with ⟨ev, ev0⟩ | ⟨vb, vcap, vcur, ev, hvb, hv, _⟩
      · have : l = [] := List.eq_nil_of_length_eq_zero ev0
        rw [ev, this]
        exact Is.nil _ _
      · by_cases hsame : vb = gb
        · subst hsame
          have hcap : cap = vcap := Is.cap (by rw [← e]; exact HG) (by rw [← ev]; exact HV)
          rw [ev, ← hcap]
          rw [List.append_assoc] at hI
          exact hI.take
        · exact HV.grown hgr (fun k hk => by rw [ev] at hk; injection hk with hk; rw [← hk]; intro e; injection e with e; exact hsame e)
    · refine wpList_append_grows _ hgd s x 24 ho 5 i0 (.int .u8 0) 1 1 Try.underlying24 hi0 hz0 hsz0 hb0 rfl (by decide) (some ⟨gb, 0, none⟩) (l ++ m).length cap (encs (Value.int .u8) (l ++ m)) hs (fun h => by cases h) (by rw [encs_length, Nat.mul_one]) ?_ ⟨W.heap.size, 0, none⟩ 1 1 [Value.int .u8 b] hx rfl hnew h1c (by omega) (by unfold maxLen; omega) (by omega) ?_
      · intro ad had j u hj
        injection had with had
        subst had
        have hb2 : Blk.Is W gb cur 5 := hg
        have h3 := (hb2.alloc (.cells #[.int .u8 b] 5)).cell j
        have e2 : (⟨gb, 0, none⟩ : Addr).add j = ⟨gb, j, none⟩ := by rw [add_plain]
        rw [e2, h3]
        rw [← hc4, List.getElem?_take] at hj
        split at hj
        · rw [← hj, Array.getElem?_toList]
        · cases hj
      · intro g1 w1 ho1 hg1
        have hI : Is w1 (W.heap.size + 1) g1 (l ++ m ++ [b]) := by
          unfold Is
          rw [encs_append, show (l ++ m ++ [b]).length = (l ++ m).length + 1 from List.length_append]
          have : (W.alloc (.cells #[.int .u8 b] 5)).heap.size = W.heap.size + 1 := by simp
          rw [this] at ho1
          exact ho1
        have hgr : ∀ r, W.grownBy w1 r := fun r => ⟨hg1.os, hg1.tape, hg1.output, Nat.le_trans (by simp) hg1.size, fun k hk _ => (hg1.block k (by simp; omega) (by simp)).trans (Below.heap_alloc W _ k hk)⟩
        have hB : Below base W w1 := ⟨(hgr none).os, (hgr none).tape, (hgr none).output, (hgr none).size, fun k hk => (hgr none).block k (by omega) (by simp)⟩
        refine h g1 w1 (HV.grown (hgr none) (fun k _ => by simp)) (hI.lower (by omega)) hB (hgr _) (.inr ?_)
        rcases hI.2 with ⟨_, e0⟩ | ⟨k, _, _, e, hk, _⟩
        · simp at e0
        · exact ⟨k, by rw [e]; rfl, by omega⟩
end
end Go.Proofs.Ytbebmbcjddibaaa.Row

namespace Go.Proofs.Ytbebmbcjddibaaa.Row
set_option linter.unusedVariables false
set_option linter.unusedSimpArgs false
open Go.RowKit Go.Proofs.YtbebmbcjddibaaaW.PrintWords Go.Proofs.YtbebmbcjddibaaaW.PrintLast Go.Proofs.YtbebmbcjddibaaaW.PrintMore

/-- A row of slices (the values themselves). -/
def IsV (W : World) (base : Nat) (v : Value) (vs : List Value) : Prop := W.ownsRow base 24 1 v vs.length vs
theorem infoV : (Try.prog.info? 24).map (fun i => (i.zero, i.size, i.bytes)) = some (some (.slice none 0 0), 1, 24) := by kernel_rfl
variable {W W' : World} {base : Nat} {v : Value} {vs : List Value}
theorem IsV.nil (W : World) (base : Nat) : IsV W base (.slice none 0 0) [] := own_nil W base _ _
theorem IsV.move (h : IsV W base v vs) (hm : ∀ k, v.ownBlock = some k → W'.heap[k]? = W.heap[k]?) : IsV W' base v vs := own_move h hm
theorem IsV.lt (h : IsV W base v vs) (k : Nat) (hk : v.ownBlock = some k) : base ≤ k ∧ k < W.heap.size := ⟨own_base h k hk, own_lt h k hk⟩
theorem IsV.below (h : IsV W base v vs) (hb : Below W.heap.size W W') : IsV W' base v vs := h.move (fun k hk => hb.block k (h.lt k hk).2)
theorem IsV.grown (h : IsV W base v vs) {row : Option Nat} (hg : W.grownBy W' row) (hne : ∀ k, v.ownBlock = some k → some k ≠ row) : IsV W' base v vs := h.move (fun k hk => hg.block k (h.lt k hk).2 (hne k hk))
theorem IsV.alloc (h : IsV W base v vs) (o : Obj) : IsV (W.alloc o) base v vs := h.move (fun k hk => Below.heap_alloc _ _ _ (h.lt k hk).2)
/-- Rows of slices and rows of bytes share no block. -/
theorem IsV.apart {u : Value} {l : List Int} (h : IsV W base v vs) (h' : Is W base u l) (k : Nat) (hk : v.ownBlock = some k) (hk' : u.ownBlock = some k) : False := by
  rcases h.2 with ⟨e, _⟩ | ⟨g, c, cur, e, _, hg, _⟩
  · rw [e] at hk; cases hk
  rcases h'.2 with ⟨e', _⟩ | ⟨g', c', cur', e', _, hg', _⟩
  · rw [e'] at hk'; cases hk'
  rw [e] at hk
  rw [e'] at hk'
  injection hk with hk
  injection hk' with hk'
  subst hk
  subst hk'
  rw [hg] at hg'
  injection hg' with hg'
  injection hg' with _ ht _
  exact absurd ht (by decide)
/-- Element i. -/
theorem IsV.cell {g n c : Nat} (h : IsV W base (.slice (some ⟨g, 0, none⟩) n c) vs) (i : Nat) (hi : i < vs.length) : W.cell? ⟨g, i, none⟩ = some vs[i] := by
  rcases h.2 with ⟨e, _⟩ | ⟨g', c', cur, e, _, hg, _, _, _, h4⟩
  · cases e
  injection e with e _ _
  injection e with e
  injection e with e
  subst e
  have hb : Blk.Is W g cur 24 := hg
  rw [hb.cell i]
  have : (cur.toList.take (vs.length * 1))[i]? = some vs[i] := by rw [h4]; exact List.getElem?_eq_getElem hi
  rw [List.getElem?_take] at this
  split at this
  · rwa [Array.getElem?_toList] at this
  · cases this
/-- What it looks like. -/
theorem IsV.shape (h : IsV W base v vs) (hv : 0 < vs.length) : ∃ g c, v = .slice (some ⟨g, 0, none⟩) vs.length c ∧ vs.length ≤ c ∧ c ≤ maxLen ∧ base ≤ g := by
  rcases h.2 with ⟨_, h⟩ | ⟨g, c, cur, e, hb, _, h1, h2, _⟩
  · omega
  · exact ⟨g, c, e, h1, h2, hb⟩
section
variable {ops : Array Oper} {Q : Exit → Act → World → Prop} {a : Act} {rest : List Oper} {o : Oper}
/-- A slice is appended. -/
theorem appendV (base : Nat) (s x : Operand) (v u : Value) (vs : List Value) (hgd : o.guard = none) (ho : o.op = .call { callee := .builtin .append, args := #[s, x], argTypes := #[32, 32] })
    (hs : a.eval s = v) (hx : a.eval x = .slice (some ⟨W.heap.size, 0, none⟩) 1 1) (HO : IsV W base v vs) (hu : u.oneCell' = true) (hbase : base ≤ W.heap.size) (hl : vs.length ≤ 1000000000)
    (h : ∀ v1 w1, IsV w1 base v1 (vs ++ [u]) → Below base W w1 → W.grownBy w1 v.ownBlock → wpList Try.prog ops Q rest (a.put o.dst v1) w1) :
    wpList Try.prog ops Q (o :: rest) a (W.alloc (.cells #[u] 24)) := by
  obtain ⟨i0, hi0, hz0, hsz0, hb0⟩ := info_parts infoV
  have hnew : ∀ j u', [u][j]? = some u' → (W.alloc (.cells #[u] 24)).cell? ((⟨W.heap.size, 0, none⟩ : Addr).add j) = some u' := by
    intro j u' hj
    match j, hj with
    | 0, hj =>
      injection hj with hj
      subst hj
      exact Blk.Is.cell (Blk.Is.new W #[u] 24) 0
    | j + 1, hj => simp at hj
  refine wpList_append_own _ hgd s x 32 ho base 24 i0 (.slice none 0 0) 1 24 Try.underlying32 hi0 hz0 hsz0 hb0 rfl (by decide) v vs.length vs hs (HO.alloc _) ⟨W.heap.size, 0, none⟩ 1 1 [u] hx rfl hnew (by intro u' hu'; simp at hu'; subst hu'; exact hu) (by unfold maxLen; omega) (by omega) (by simp; omega) ?_
  intro v1 w1 ho1 hg1 _
  have hgr : W.grownBy w1 v.ownBlock := ⟨hg1.os, hg1.tape, hg1.output, Nat.le_trans (by simp) hg1.size, fun k hk hne => (hg1.block k (by simp; omega) hne).trans (Below.heap_alloc W _ k hk)⟩
  refine h v1 w1 ?_ ⟨hgr.os, hgr.tape, hgr.output, hgr.size, fun k hk => hgr.block k (by omega) (fun e => by have := (HO.lt k e.symm).1; omega)⟩ hgr
  unfold IsV
  rw [List.length_append]
  exact ho1
end
end Go.Proofs.Ytbebmbcjddibaaa.Row

namespace Go.Proofs.Ytbebmbcjddibaaa.Apart
set_option linter.unusedVariables false
set_option linter.unusedSimpArgs false
open Go.RowKit Go.Proofs.Ytbebmbcjddibaaa.Row Go.Proofs.YtbebmbcjddibaaaW.PrintWords Go.Proofs.YtbebmbcjddibaaaW.PrintLast Go.Proofs.YtbebmbcjddibaaaW.PrintMore

def rows (n : Nat) (f : Nat → Value) : List Value := (List.range n).map f
theorem rows_len (n : Nat) (f : Nat → Value) : (rows n f).length = n := by simp [rows]
theorem rows_get (n : Nat) (f : Nat → Value) (q : Nat) (h : q < n) : (rows n f)[q]'(by rw [rows_len]; exact h) = f q := by simp [rows]
def upd (f : Nat → Value) (i : Nat) (u : Value) : Nat → Value := fun q => if q = i then u else f q
theorem upd_at (f : Nat → Value) (i : Nat) (u : Value) : upd f i u i = u := by simp [upd]
theorem upd_ne (f : Nat → Value) (i q : Nat) (u : Value) (h : q ≠ i) : upd f i u q = f q := by simp [upd, h]
theorem rows_upd (f : Nat → Value) (i : Nat) (u : Value) : rows (i + 1) (upd f i u) = rows i f ++ [u] := by
  unfold rows
  rw [List.range_succ, List.map_append]
  congr 1
  · apply List.map_congr_left
    intro q hq
    rw [List.mem_range] at hq
    exact upd_ne f i q u (by omega)
  · simp [upd]
theorem _root_.Go.Proofs.Ytbebmbcjddibaaa.Row.IsV.low {W : World} {base b : Nat} {v : Value} {vs : List Value} (h : IsV W base v vs) (hb : b ≤ base) : IsV W b v vs := own_weaken h hb
theorem _root_.Go.Proofs.Ytbebmbcjddibaaa.Row.IsV.at {W : World} {base g n c m : Nat} {f : Nat → Value} (h : IsV W base (.slice (some ⟨g, 0, none⟩) n c) (rows m f)) (i : Nat) (hi : i < m) : W.cell? ⟨g, i, none⟩ = some (f i) := by
  have := h.cell i (by rw [rows_len]; exact hi)
  rwa [rows_get m f i hi] at this
theorem _root_.Go.Proofs.Ytbebmbcjddibaaa.Row.IsV.form {W : World} {base : Nat} {v : Value} {vs : List Value} (h : IsV W base v vs) : ∃ A c, v = .slice A vs.length c ∧ (0 < vs.length → ∃ g, A = some ⟨g, 0, none⟩) := by
  rcases h.2 with ⟨e, e0⟩ | ⟨g, c, cur, e, _⟩
  · exact ⟨none, 0, by rw [e, e0], fun h => by omega⟩
  · exact ⟨_, c, e, fun _ => ⟨g, rfl⟩⟩
/-- The rows, and copies of them. -/
structure St (W : World) (base H n : Nat) (all v3 : Value) (vs us : Nat → Value) (ls : Nat → List Int) : Prop where
  row : IsV W base all (rows n vs)
  was : IsV W H v3 (rows n us)
  each : ∀ q, q < n → Is W base (vs q) (ls q)
  eachU : ∀ q, q < n → Is W H (us q) (ls q)
/-- Where they lie. -/
structure Lie (H H2 n : Nat) (all v3 : Value) (vs us : Nat → Value) : Prop where
  lall : ∀ k, all.ownBlock = some k → k < H
  lwas : ∀ k, v3.ownBlock = some k → H ≤ k ∧ k < H2
  lvs : ∀ q, q < n → ∀ k, (vs q).ownBlock = some k → k < H
  lus : ∀ q, q < n → ∀ k, (us q).ownBlock = some k → H ≤ k ∧ k < H2
  un : ∀ p q, p < n → q < n → p ≠ q → ∀ k, (vs p).ownBlock = some k → (vs q).ownBlock ≠ some k
  le : H ≤ H2
/-- The rows that were gone on with. -/
structure More (W : World) (base H2 K i : Nat) (v5 : Value) (vs ms : Nat → Value) (ls : Nat → List Int) (b : Nat → Int) : Prop where
  row : IsV W H2 v5 (rows i ms)
  each : ∀ q, q < i → Is W base (ms q) (ls q ++ List.replicate 40 (b q))
  own : ∀ q, q < i → (ms q).ownBlock = (vs q).ownBlock ∨ ∃ k, (ms q).ownBlock = some k ∧ H2 ≤ k ∧ k < K
/-- A row that is gone on with. -/
structure Go (W : World) (base K : Nat) (g v : Value) (l m : List Int) : Prop where
  is : Is W base g (l ++ m)
  own : g.ownBlock = v.ownBlock ∨ ∃ k, g.ownBlock = some k ∧ K ≤ k
variable {W W' : World} {m : List Int} {l5 : List Value} {base H H2 K n i : Nat} {all v3 v5 g : Value} {vs us ms : Nat → Value} {ls : Nat → List Int} {b : Nat → Int}
/-- No other row lies where the one lies that is gone on with. -/
theorem Go.off (hg : Go W base K g (vs i) (ls i) m) (hL : Lie H H2 n all v3 vs us) (hK : H2 ≤ K) (hi : i < n) (k : Nat) (hk : g.ownBlock = some k) :
    (∀ q, q < n → q ≠ i → (vs q).ownBlock ≠ some k) ∧ (∀ q, q < n → (us q).ownBlock ≠ some k) ∧ (k < H ∧ (vs i).ownBlock = some k ∨ K ≤ k) := by
  have hle := hL.le
  rcases hg.own with h | ⟨k', h, h2⟩
  · rw [hk] at h
    have h3 := hL.lvs i hi k h.symm
    refine ⟨fun q hq hne e => hL.un i q hi hq (Ne.symm hne) k h.symm e, fun q hq e => ?_, .inl ⟨h3, h.symm⟩⟩
    have := hL.lus q hq k e
    omega
  · rw [hk] at h
    injection h with h
    subst h
    refine ⟨fun q hq hne e => ?_, fun q hq e => ?_, .inr h2⟩
    · have := hL.lvs q hq k e; omega
    · have := hL.lus q hq k e; omega
/-- .. so an append to it leaves them alone. -/
theorem St.go (hS : St W base H n all v3 vs us ls) (hg : Go W base K g (vs i) (ls i) m) (hL : Lie H H2 n all v3 vs us) (hK : H2 ≤ K) (hi : i < n) (hbase : base ≤ H) (hgr : W.grownBy W' g.ownBlock) (hv : Is W' base (vs i) (ls i)) : St W' base H n all v3 vs us ls where
  row := hS.row.grown hgr (fun k hk e => hS.row.apart hg.is k hk e.symm)
  was := hS.was.grown hgr (fun k hk e => (hS.was.low hbase).apart hg.is k hk e.symm)
  each q hq := by
    by_cases h : q = i
    · subst h; exact hv
    · exact (hS.each q hq).grown hgr (fun k hk e => (hg.off hL hK hi k e.symm).1 q hq h hk)
  eachU q hq := (hS.eachU q hq).grown hgr (fun k hk e => (hg.off hL hK hi k e.symm).2.1 q hq hk)
theorem More.go (hM : More W base H2 K i v5 vs ms ls b) (hg : Go W base K g (vs i) (ls i) m) (hL : Lie H H2 n all v3 vs us) (hK : H2 ≤ K) (hi : i < n) (hbase : base ≤ H2) (hgr : W.grownBy W' g.ownBlock) : More W' base H2 K i v5 vs ms ls b where
  row := hM.row.grown hgr (fun k hk e => (hM.row.low hbase).apart hg.is k hk e.symm)
  each q hq := (hM.each q hq).grown hgr (fun k hk e => by
    have ho := hg.off hL hK hi k e.symm
    rcases hM.own q hq with h | ⟨k', h, h1, h2⟩
    · rw [hk] at h
      exact ho.1 q (by omega) (by omega) h.symm
    · rw [hk] at h
      injection h with h
      subst h
      have := hL.le
      rcases ho.2.2 with h | h <;> omega)
  own := hM.own
/-- The row of rows is appended to: the rows of bytes stay. -/
theorem St.more (hS : St W base H n all v3 vs us ls) (h5 : IsV W H2 v5 l5) (hL : Lie H H2 n all v3 vs us) (hbase : base ≤ H) (hgr : W.grownBy W' v5.ownBlock) : St W' base H n all v3 vs us ls where
  row := hS.row.grown hgr (fun k hk e => by
    have := hL.lall k hk
    have := (h5.lt k e.symm).1
    have := hL.le
    omega)
  was := hS.was.grown hgr (fun k hk e => by
    have := hL.lwas k hk
    have := (h5.lt k e.symm).1
    omega)
  each q hq := (hS.each q hq).grown hgr (fun k hk e => (h5.low (Nat.le_trans hbase hL.le)).apart (hS.each q hq) k e.symm hk)
  eachU q hq := (hS.eachU q hq).grown hgr (fun k hk e => (h5.low hL.le).apart (hS.eachU q hq) k e.symm hk)
/-- While rows are written over: those that follow row i, and the copies. -/
structure Rest (w W : World) (base H n i : Nat) (all v3 : Value) (vs us : Nat → Value) (ls : Nat → List Int) : Prop where
  row : IsV W base all (rows n vs)
  was : IsV W H v3 (rows n us)
  each : ∀ q, i < q → q < n → Is W base (vs q) (ls q)
  eachU : ∀ q, q < n → Is W H (us q) (ls q)
  below : Below base w W
theorem Rest.drewN {w : World} (h : Rest w W base H n i all v3 vs us ls) (m : Nat) : Rest w (W.drewN m) base H n i all v3 vs us ls := ⟨h.row, h.was, h.each, h.eachU, pw_below_drewN h.below m⟩
theorem Rest.next {w : World} (h : Rest w W base H n i all v3 vs us ls) : Rest w W base H n (i + 1) all v3 vs us ls := ⟨h.row, h.was, fun q h1 h2 => h.each q (by omega) h2, h.eachU, h.below⟩
/-- Row i is stored into. -/
theorem Rest.set {w : World} {l : List Int} {gb k : Nat} {u : Value} (h : Rest w W base H n i all v3 vs us ls) (hL : Lie H H2 n all v3 vs us) (hi : i < n) (hbase : base ≤ H) (hv : (vs i).ownBlock = some gb) (hI : Is W base (vs i) l) : Rest w (W.setCell ⟨gb, k, none⟩ u) base H n i all v3 vs us ls where
  row := h.row.move (fun j hj => Below.heap_setCell _ _ _ _ (by rintro rfl; exact h.row.apart hI _ hj hv))
  was := h.was.move (fun j hj => Below.heap_setCell _ _ _ _ (by rintro rfl; exact (h.was.low hbase).apart hI _ hj hv))
  each q h1 h2 := (h.each q h1 h2).other (fun e => hL.un i q hi h2 (by omega) gb hv e) u
  eachU q hq := (h.eachU q hq).other (fun e => by
    have h1 := hL.lvs i hi gb hv
    have h2 := hL.lus q hq gb e
    omega) u
  below := h.below.setCell (hI.lt gb hv).1 u
theorem St.drewN (hS : St W base H n all v3 vs us ls) (m : Nat) : St (W.drewN m) base H n all v3 vs us ls := ⟨hS.row, hS.was, hS.each, hS.eachU⟩
end Go.Proofs.Ytbebmbcjddibaaa.Apart
/- What is said here: rows of bytes that share no memory are found apart. -/
namespace Go.Proofs.Ytbebmbcjddibaaa.Apart
set_option linter.unusedVariables false
set_option linter.unusedSimpArgs false
open Go.RowKit Go.Proofs.Ytbebmbcjddibaaa.Row Go.Proofs.YtbebmbcjddibaaaW.PrintWords Go.Proofs.YtbebmbcjddibaaaW.PrintLast Go.Proofs.YtbebmbcjddibaaaW.PrintMore

theorem copy_f (l : List Int) (h : l.length ≤ 100000000000000) : PG.ciboriumref00_CopyBytes.f l = some l := by
  unfold PG.ciboriumref00_CopyBytes.f
  rw [if_pos (by simp; omega)]
  rfl
theorem eq_f (l : List Int) : PG.ciboriumref00_EqBytes.f l l = some true := by unfold PG.ciboriumref00_EqBytes.f; simp
theorem rep_snoc (b : Int) (j : Nat) (l : List Int) : l ++ List.replicate j b ++ [b] = l ++ List.replicate (j + 1) b := by
  rw [List.append_assoc, ← List.replicate_succ']
theorem tail_cell {W : World} {base g n c : Nat} {l : List Int} {b : Int} (h : Is W base (.slice (some ⟨g, 0, none⟩) n c) (l ++ List.replicate 40 b)) (k : Nat) (hk : k < 40) : W.cell? ⟨g, l.length + k, none⟩ = some (.int .u8 b) := by
  have := (h.cell (l.length + k) (by rw [List.length_append, List.length_replicate]; omega)).1
  rw [this, List.getD_eq_getElem?_getD, List.getElem?_append_right (by omega), Nat.add_sub_cancel_left, List.getElem?_replicate_of_lt hk]
  rfl
/-- What EqBytes tells of a row and its copy, after some draws. -/
theorem eq_quiet {W : World} {A B : Option Addr} {c d : Nat} {l : List Int} (hA : Kd.C (Kd.int .u8) W A l.length l) (hc : l.length ≤ c) (hB : Kd.C (Kd.int .u8) W B l.length l) (hd : l.length ≤ d) (m q : Nat) :
    Calls Try.prog 12 #[.slice A l.length c, .slice B l.length d] (W.drewN (m + q)) fun e w'' => e = .returned (.bool true) ∧ ∃ m2, w'' = W.drewN (m + m2) := by
  refine (PG.ciboriumref00_EqBytes.calls A c l B d l true (W.drewN (m + q)) hA hc hB hd (eq_f l)).mono ?_
  rintro e w' ⟨rfl, ⟨nd, rfl⟩⟩
  exact ⟨rfl, q + nd, by rw [World.drewN_drewN, Nat.add_assoc]⟩
/-- The mark of row i. -/
def mk (i : Nat) : Int := IntKind.u8.wrap ((i : Int) + 1)

set_option maxRecDepth 100000 in
set_option maxHeartbeats 8000000 in
theorem apart (base G n c : Nat) (vs : Nat → Value) (ls : Nat → List Int) (w : World) (hrow : IsV w base (.slice (some ⟨G, 0, none⟩) n c) (rows n vs)) (heach : ∀ q, q < n → Is w base (vs q) (ls q))
    (hun : ∀ p q, p < n → q < n → p ≠ q → ∀ k, (vs p).ownBlock = some k → (vs q).ownBlock ≠ some k) (hb : base ≤ w.heap.size) (hn0 : n ≤ 1000000) (hl : ∀ q, q < n → (ls q).length ≤ 1000000000) :
    Calls Try.prog 14 #[.slice (some ⟨G, 0, none⟩) n c] w fun e w' => e = .returned (.bool true) ∧ Below base w w' := by
  have HR := Lib.hid hrow
  have HE := Lib.hid heach
  have HL := Lib.hid hl
  have HU := Lib.hid hun
  have Hb := Lib.hid hb
  clear hrow heach hl hun hb
  go_enter Try.func14, Try.ntmps14
  go_wp2_with fail
  go_loopw [3, 4] (fun v3 v4 wr => ∃ i : Nat, i ≤ n ∧ v4 = .int .i64 (i : Int) ∧ Hid (∃ us : Nat → Value, IsV wr w.heap.size v3 (rows i us) ∧ ∀ q, q < i → Is wr w.heap.size (us q) (ls q)) ∧ Hid (Below w.heap.size w wr)) (fun _ v4 _ => n - (intOf v4).toNat)
  case atStart => exact ⟨0, by omega, rfl, ⟨fun _ => .slice none 0 0, IsV.nil _ _, fun q h => absurd h (Nat.not_lt_zero q)⟩, Below.refl _ _⟩
  case round =>
    obtain ⟨i, hi, rfl, HW, HB⟩ := hrel
    by_cases hlt : i < n
    · have hcell : wr.cell? ⟨G, i, none⟩ = some (vs i) := (HR.out.below HB.out).at i hlt
      obtain ⟨A, c1, hv, hc1, hC⟩ := ((HE.out i hlt).below HB.out).reads
      rw [hv] at hcell
      have HC0 := Lib.hid (PG.ciboriumref00_CopyBytes.calls A c1 _ _ wr hC hc1 (copy_f _ (Nat.le_trans (HL.out i hlt) (by decide))))
      have hm : (ls i).length ≤ 1000000000 := HL.out i hlt
      clear hv hC
      obtain ⟨us, hus, hue⟩ := HW.out
      have HUS := Lib.hid hus
      have HUE := Lib.hid hue
      clear hus hue HW
      go_wp2_with fail
      refine HC0.out.mono ?_
      rintro e w2 ⟨v2, rfl, hR, hb2⟩
      have hR2 := of_R hR
      obtain ⟨A2, c2, rfl, _⟩ := hR2.reads
      have HR2 : Hid (Is w2 w.heap.size _ _) := hR2.lower HB.out.size
      have HB2 := Lib.hid hb2
      have HUS2 := Lib.hid (HUS.out.below hb2)
      have HB3 : Hid (Below w.heap.size w w2) := HB.out.trans (hb2.mono HB.out.size)
      clear hR hb2 HC0 hR2
      go_wp2_with (refine appendV w.heap.size _ _ u3 _ (rows i us) rfl rfl rfl rfl HUS2.out rfl HB3.out.size (by rw [rows_len]; omega) ?_; intro v3 w3 h1 h2 h3)
      rw [← rows_upd] at h1
      have HB4 : Hid (Below w.heap.size w w3) := HB3.out.trans h2
      have HN : Hid (∃ us : Nat → Value, IsV w3 w.heap.size v3 (rows (i + 1) us) ∧ ∀ q, q < i + 1 → Is w3 w.heap.size (us q) (ls q)) := ⟨_, h1, fun q hq => by
        by_cases h : q = i
        · subst h
          rw [upd_at]
          exact HR2.out.grown h3 (fun k hk e => (HUS2.out).apart HR2.out k e.symm hk)
        · rw [upd_ne _ _ _ _ h]
          exact ((HUE.out q (by omega)).below HB2.out).grown h3 (fun k hk e => (HUS2.out).apart ((HUE.out q (by omega)).below HB2.out) k e.symm hk)⟩
      clear h1 h2 h3 HB3 HB2 HUS HUS2 HUE HR2
      go_wp2
      go_roundw
      case rel => exact ⟨i + 1, by omega, by go_num, HN, HB4⟩
      case measure => simp [intOf]; omega
    · obtain rfl : n = i := by omega
      obtain ⟨us, hus, hue⟩ := HW.out
      have HB1 : Hid (Below base w wr) := HB.out.mono Hb.out
      have HS1 : Hid (St wr base w.heap.size n (.slice (some ⟨G, 0, none⟩) n c) u3 vs us ls) := ⟨HR.out.below HB.out, hus, fun q hq => (HE.out q hq).below HB.out, hue⟩
      have HLie : Hid (Lie w.heap.size wr.heap.size n (.slice (some ⟨G, 0, none⟩) n c) u3 vs us) := ⟨fun k hk => (HR.out.lt k hk).2, fun k hk => hus.lt k hk, fun q hq k hk => ((HE.out q hq).lt k hk).2, fun q hq k hk => (hue q hq).lt k hk, HU.out, HB.out.size⟩
      have HH : Hid (wr.heap.size ≤ wr.heap.size) := Nat.le_refl _
      clear hus hue HW HB HR HE HU hlt hi
      generalize w.heap.size = H at *
      obtain ⟨H2, hH2⟩ : ∃ H2, H2 = wr.heap.size := ⟨_, rfl⟩
      have HH2 := Lib.hid hH2
      rw [← hH2] at HLie
      clear hH2 HH
      go_wp2_with fail
      go_loopw [5, 6, 7, 8] (fun v5 v6 v7 v8 wl => ∃ (i : Nat) (ms : Nat → Value), i ≤ n ∧ v6 = .int .i64 (i : Int) ∧ Hid (St wl base H n (.slice (some ⟨G, 0, none⟩) n c) u3 vs us ls) ∧ Hid (More wl base H2 wl.heap.size i v5 vs ms ls mk) ∧ Hid (Below base w wl) ∧ Hid (H2 ≤ wl.heap.size)) (fun _ v6 _ _ _ => n - (intOf v6).toNat)
      case atStart => exact ⟨0, fun _ => .slice none 0 0, by omega, rfl, HS1, ⟨IsV.nil _ _, fun q h => absurd h (Nat.not_lt_zero q), fun q h => absurd h (Nat.not_lt_zero q)⟩, HB1, Nat.le_of_eq HH2.out⟩
      case round =>
        obtain ⟨i, ms, hi, rfl, HS, HM, HB, HK⟩ := hrel
        by_cases hlt : i < n
        · have hcell : wr.cell? ⟨G, i, none⟩ = some (vs i) := HS.out.row.at i hlt
          have hm : (ls i).length ≤ 1000000000 := HL.out i hlt
          have hby : IntKind.u8.wrap ((i : Int) + 1) = mk i := rfl
          obtain ⟨K, hK⟩ : ∃ K, K = wr.heap.size := ⟨_, rfl⟩
          have HG0 : Hid (Go wr base K (vs i) (vs i) (ls i) (List.replicate 0 (mk i))) := ⟨by rw [List.replicate_zero, List.append_nil]; exact HS.out.each i hlt, .inl rfl⟩
          have HKK := Lib.hid hK
          rw [← hK] at HM HK
          clear hK
          go_wp2_with fail
          go_loopw [7, 8] (fun v7 v8 wl => ∃ (j : Nat), j ≤ 40 ∧ v8 = .int .i64 (j : Int) ∧ Hid (Go wl base K v7 (vs i) (ls i) (List.replicate j (mk i))) ∧ Hid (St wl base H n (.slice (some ⟨G, 0, none⟩) n c) u3 vs us ls) ∧ Hid (More wl base H2 K i u5 vs ms ls mk) ∧ Hid (Below base w wl) ∧ Hid (K ≤ wl.heap.size)) (fun _ v8 _ => 40 - (intOf v8).toNat)
          case atStart => exact ⟨0, by omega, rfl, HG0, HS, HM, HB, Nat.le_of_eq HKK.out⟩
          case round =>
            clear HG0 HS HM HB HKK hcell
            obtain ⟨j, hj, rfl, HG, HS, HM, HB, HKl⟩ := hrel
            by_cases hjl : j < 40
            · have hlen : (ls i ++ List.replicate j (mk i)).length ≤ 100000000000000 := by rw [List.length_append, List.length_replicate]; omega
              have hbw : base ≤ wr.heap.size := by have h1 := Hb.out; have h2 := HLie.out.le; have h3 := HK.out; have h4 := HKl.out; omega
              go_wp2_with (refine appendKeep base _ _ (vs i) u7 (ls i) (List.replicate j (mk i)) (mk i) rfl rfl rfl rfl (HS.out.each i hlt) HG.out.is hbw hlen ?_; intro g1 w1 q1 q2 q3 q4 q5)
              have HG1 : Hid (Go w1 base K g1 (vs i) (ls i) (List.replicate (j + 1) (mk i))) := ⟨by rw [← rep_snoc]; exact q2, by
                rcases q5 with h | ⟨k, h, h2⟩
                · rw [h]; exact HG.out.own
                · exact .inr ⟨k, h, Nat.le_trans HKl.out h2⟩⟩
              have HS1 : Hid (St w1 base H n (.slice (some ⟨G, 0, none⟩) n c) u3 vs us ls) := HS.out.go HG.out HLie.out HK.out hlt Hb.out q4 q1
              have HM1 : Hid (More w1 base H2 K i u5 vs ms ls mk) := HM.out.go HG.out HLie.out HK.out hlt (by have h1 := Hb.out; have h2 := HLie.out.le; omega) q4
              have HB1 : Hid (Below base w w1) := HB.out.trans q3
              have HK1 : Hid (K ≤ w1.heap.size) := Nat.le_trans HKl.out q3.size
              clear q1 q2 q3 q4 q5 HG HS HM HB HKl
              go_wp2
              go_roundw
              case rel => exact ⟨j + 1, by omega, by go_num, HG1, HS1, HM1, HB1, HK1⟩
              case measure => simp [intOf]; omega
            · obtain rfl : j = 40 := by omega
              have hrl : (rows i ms).length ≤ 1000000000 := by rw [rows_len]; omega
              have hbw : H2 ≤ wr.heap.size := Nat.le_trans HK.out HKl.out
              obtain ⟨A7, c7, h7, _, _⟩ := HG.out.is.reads
              generalize hn7 : (ls i ++ List.replicate 40 (mk i)).length = n7 at h7
              clear hn7
              subst h7
              go_wp2_with (refine appendV H2 _ _ u5 (.slice A7 n7 c7) (rows i ms) rfl rfl rfl rfl HM.out.row rfl hbw hrl ?_; intro v1 w1 q1 q2 q3)
              rw [← rows_upd] at q1
              have HS1 : Hid (St w1 base H n (.slice (some ⟨G, 0, none⟩) n c) u3 vs us ls) := HS.out.more HM.out.row HLie.out Hb.out q3
              have HB1 : Hid (Below base w w1) := HB.out.trans (q2.mono (by have h1 := Hb.out; have h2 := HLie.out.le; omega))
              have HK1 : Hid (H2 ≤ w1.heap.size) := Nat.le_trans hbw q2.size
              have hb2 : base ≤ H2 := by have h1 := Hb.out; have h2 := HLie.out.le; omega
              have HM1 : Hid (More w1 base H2 w1.heap.size (i + 1) v1 vs (upd ms i (.slice A7 n7 c7)) ls mk) := ⟨q1, fun q hq => by
                by_cases h : q = i
                · subst h
                  rw [upd_at]
                  exact HG.out.is.grown q3 (fun k hk e => (HM.out.row.low hb2).apart HG.out.is k e.symm hk)
                · rw [upd_ne _ _ _ _ h]
                  exact (HM.out.each q (by omega)).grown q3 (fun k hk e => (HM.out.row.low hb2).apart (HM.out.each q (by omega)) k e.symm hk), fun q hq => by
                have hkw : wr.heap.size ≤ w1.heap.size := q2.size
                by_cases h : q = i
                · subst h
                  rw [upd_at]
                  rcases HG.out.own with h | ⟨k, h, h2⟩
                  · exact .inl h
                  · exact .inr ⟨k, h, Nat.le_trans HK.out h2, Nat.lt_of_lt_of_le (HG.out.is.lt k h).2 hkw⟩
                · rw [upd_ne _ _ _ _ h]
                  rcases HM.out.own q (by omega) with h | ⟨k, h, h1, h2⟩
                  · exact .inl h
                  · exact .inr ⟨k, h, h1, Nat.lt_of_lt_of_le h2 (Nat.le_trans HKl.out hkw)⟩⟩
              clear q1 q2 q3 HG HS HM HB HKl hb2
              go_wp2
              go_roundw
              case rel => exact ⟨i + 1, upd ms i (.slice A7 n7 c7), by omega, by go_num, HS1, HM1, HB1, HK1⟩
              case measure => simp [intOf]; omega
        · obtain rfl : n = i := by omega
          have h5 := HM.out.row.form
          have h3 := HS.out.was.form
          rw [rows_len] at h5 h3
          obtain ⟨A5, c5, h5, h5'⟩ := h5
          obtain ⟨A3, c3, h3, h3'⟩ := h3
          have H5' := Lib.hid h5'
          have H3' := Lib.hid h3'
          clear h5' h3'
          subst h5
          subst h3
          obtain ⟨wt, hwt⟩ : ∃ wt, wt = wr := ⟨_, rfl⟩
          rw [← hwt]
          have HS2 : Hid (St wt base H n (.slice (some ⟨G, 0, none⟩) n c) (.slice A3 n c3) vs us ls) := by rw [hwt]; exact HS
          have HM2 : Hid (More wt base H2 wt.heap.size n (.slice A5 n c5) vs ms ls mk) := by rw [hwt]; exact HM
          have HB2 : Hid (Below base w wt) := by rw [hwt]; exact HB
          clear hwt HS HM HB HK hlt hi HS1 HB1 HH2
          go_wp2_with fail
          go_loopw [9, 10, 11] (fun v9 v10 v11 wl => ∃ (i m : Nat), i ≤ n ∧ v9 = .int .i64 (i : Int) ∧ wl = wt.drewN m) (fun v9 _ _ _ => n - (intOf v9).toNat)
          case atStart => exact ⟨0, 0, by omega, rfl, rfl⟩
          case round =>
            obtain ⟨i, m, hi, rfl, rfl⟩ := hrel
            by_cases hlt : i < n
            · obtain ⟨g5, rfl⟩ := H5'.out (by omega)
              obtain ⟨g3, rfl⟩ := H3'.out (by omega)
              have hcell : wt.cell? ⟨G, i, none⟩ = some (vs i) := HS2.out.row.at i hlt
              have hcel3 : wt.cell? ⟨g3, i, none⟩ = some (us i) := HS2.out.was.at i hlt
              have hcel5 : wt.cell? ⟨g5, i, none⟩ = some (ms i) := HM2.out.row.at i hlt
              obtain ⟨A, cA, hv, hcA, hC⟩ := (HS2.out.each i hlt).reads
              obtain ⟨B, cB, hvB, hcB, hCB⟩ := (HS2.out.eachU i hlt).reads
              obtain ⟨D, cD, hvD, hcD, hCD⟩ := (HM2.out.each i hlt).reads
              have hmi := HM2.out.each i hlt
              rw [hvD] at hmi hcel5
              obtain ⟨gm, rfl, _⟩ := hmi.head (by rw [List.length_append, List.length_replicate]; omega)
              have HT := Lib.hid (tail_cell hmi)
              have HEQ := Lib.hid (eq_quiet hC hcA hCB hcB)
              have hm : (ls i).length ≤ 1000000000 := HL.out i hlt
              have hnm : (ls i ++ List.replicate 40 (mk i)).length = (ls i).length + 40 := by rw [List.length_append, List.length_replicate]
              rw [hv] at hcell
              rw [hvB] at hcel3
              rw [hnm] at hcel5
              have hby : IntKind.u8.wrap ((i : Int) + 1) = mk i := rfl
              clear hv hvB hvD hC hCB hCD hmi hnm hcA hcB hcD
              generalize (ls i).length = L at *
              go_wp2_with fail
              go_loopw [11] (fun v11 wl => ∃ (k m : Nat), k ≤ 40 ∧ v11 = .int .i64 (k : Int) ∧ wl = wt.drewN m) (fun v11 _ => 40 - (intOf v11).toNat)
              case atStart => exact ⟨0, m, by omega, rfl, rfl⟩
              case round =>
                obtain ⟨k, m, hk, rfl, rfl⟩ := hrel
                by_cases hkl : k < 40
                · have hct := HT.out k hkl
                  go_wp2
                  go_roundw
                  case rel => exact ⟨k + 1, m, by omega, by go_num, rfl⟩
                  case measure => simp [intOf]; omega
                · obtain rfl : k = 40 := by omega
                  go_wp2
                  go_quiet (exact HEQ.out _ _)
                  go_wp2
                  go_roundw
                  case rel => exact ⟨i + 1, _, by omega, by go_num, rfl⟩
                  case measure => simp [intOf]; omega
            · obtain rfl : n = i := by omega
              have HR0 : Hid (Rest w (wt.drewN m) base H n 0 (.slice (some ⟨G, 0, none⟩) n c) (.slice A3 n c3) vs us ls) := ⟨HS2.out.row, HS2.out.was, fun q _ hq => HS2.out.each q hq, HS2.out.eachU, pw_below_drewN HB2.out m⟩
              have HV0 : Hid (∀ q, q < n → Is (wt.drewN m) base (vs q) (ls q)) := fun q hq => HS2.out.each q hq
              clear HS2 HM2 HB2 hlt hi H5'
              generalize wt.drewN m = ws at *
              go_wp2_with fail
              go_loopw [2, 12, 13, 14] (fun v2 v12 v13 v14 wl => ∃ (i : Nat), i ≤ n ∧ v12 = .int .i64 (i : Int) ∧ Hid (Rest w wl base H n i (.slice (some ⟨G, 0, none⟩) n c) (.slice A3 n c3) vs us ls) ∧ Hid (∀ q, i ≤ q → q < n → Is wl base (vs q) (ls q))) (fun _ v12 _ _ _ => n - (intOf v12).toNat)
              case atStart => exact ⟨0, by omega, rfl, HR0, fun q _ hq => HV0.out q hq⟩
              case round =>
                clear HR0 HV0
                obtain ⟨i, hi, rfl, HR, HV⟩ := hrel
                by_cases hlt : i < n
                · obtain ⟨g3, rfl⟩ := H3'.out (by omega)
                  have hm : (ls i).length ≤ 1000000000 := HL.out i hlt
                  obtain ⟨A, cA, hv, hcA, hC⟩ := (HV.out i (Nat.le_refl _) hlt).reads
                  have Hv := Lib.hid hv
                  have HI0 : Hid (∃ l : List Int, l.length = (ls i).length ∧ Is wr base (vs i) l) := ⟨_, rfl, HV.out i (Nat.le_refl _) hlt⟩
                  clear hv hC hcA HV
                  obtain ⟨L, hLL⟩ : ∃ L, (ls i).length = L := ⟨_, rfl⟩
                  rw [hLL] at hm HI0 Hv
                  clear hLL
                  go_wp2_with fail
                  go_loopw [13] (fun v13 wl => ∃ (k : Nat), k ≤ L ∧ v13 = .int .i64 (k : Int) ∧ Hid (Rest w wl base H n i (.slice (some ⟨G, 0, none⟩) n c) (.slice (some ⟨g3, 0, none⟩) n c3) vs us ls) ∧ Hid (∃ l : List Int, l.length = L ∧ Is wl base (vs i) l)) (fun v13 _ => L - (intOf v13).toNat)
                  case atStart => exact ⟨0, by omega, rfl, HR, HI0⟩
                  case round =>
                    clear HR HI0
                    obtain ⟨k, hk, rfl, HR, HI⟩ := hrel
                    have hcell : wr.cell? ⟨G, i, none⟩ = some (vs i) := HR.out.row.at i hlt
                    rw [Hv.out] at hcell
                    by_cases hkl : k < L
                    · obtain ⟨l, hl, hI⟩ := HI.out
                      rw [Hv.out] at hI
                      obtain ⟨g, rfl, _⟩ := hI.head (by omega)
                      obtain ⟨ha1, ha2⟩ := hI.cell k (by omega)
                      have HI1 := Lib.hid hI
                      have HO : Hid ((vs i).ownBlock = some g) := by show _ = _; rw [Hv.out]; rfl
                      have HIl := Lib.hid hl
                      clear hI hl HI
                      generalize l.getD k 0 = x at *
                      go_wp2_with fail
                      -- region 33
                      refine start_ (n := 15) (S := fun w' => w'.cell? ⟨G, i, none⟩ = some (.slice (some ⟨g, 0, none⟩) L cA) ∧ w'.cell? ⟨g, k, none⟩ = some (.int .u8 x)) (ds := [14]) #[false, false, false, false, false, false, false, false, false, false, false, false, false, false, false] (by kernel_rfl) rfl rfl ⟨hcell, ha1⟩ (fun hHeld => ?_)
                      refine pure_ (i := 0) (N := some 106) (v := ?_) (a' := ?_) #[true, false, false, false, false, false, false, false, false, false, false, false, false, false, false] rfl rfl (by kernel_rfl) (fun _ _ _ h => h) (Or.inl ⟨by rfl, ?_⟩) ?_ ?_
                      rotate_left
                      · intro w'
                        go_simp
                        with_reducible rfl
                      rotate_left
                      · simp only [Act.put, List.setIfInBounds_toArray, List.set_cons_zero, List.set_cons_succ, i64_w, i32_w]
                        rfl
                      refine pure_ (i := 1) (N := some 107) (v := ?_) (a' := ?_) #[true, true, false, false, false, false, false, false, false, false, false, false, false, false, false] rfl rfl (by kernel_rfl) (fun _ _ _ h => h) (Or.inl ⟨by rfl, ?_⟩) ?_ ?_
                      rotate_left
                      · intro w'
                        go_simp
                        with_reducible rfl
                      rotate_left
                      · simp only [Act.put, List.setIfInBounds_toArray, List.set_cons_zero, List.set_cons_succ, i64_w, i32_w]
                        rfl
                      refine pure_ (i := 2) (N := some 108) (v := ?_) (a' := ?_) #[true, true, true, false, false, false, false, false, false, false, false, false, false, false, false] rfl rfl (by kernel_rfl) (fun _ _ _ h => h) (Or.inl ⟨by rfl, ?_⟩) ?_ ?_
                      rotate_left
                      · intro w'
                        go_simp
                        with_reducible rfl
                      rotate_left
                      · simp only [Act.put, List.setIfInBounds_toArray, List.set_cons_zero, List.set_cons_succ, i64_w, i32_w]
                        rfl
                      refine pure_ (i := 4) (N := some 110) (v := ?_) (a' := ?_) #[true, true, true, false, true, false, false, false, false, false, false, false, false, false, false] rfl rfl (by kernel_rfl) (fun _ _ _ h => h) (Or.inl ⟨by rfl, ?_⟩) ?_ ?_
                      rotate_left
                      · intro w'
                        go_simp
                        with_reducible rfl
                      rotate_left
                      · simp only [Act.put, List.setIfInBounds_toArray, List.set_cons_zero, List.set_cons_succ, i64_w, i32_w]
                        rfl
                      refine pure_ (i := 5) (N := some 111) (v := ?_) (a' := ?_) #[true, true, true, false, true, true, false, false, false, false, false, false, false, false, false] rfl rfl (by kernel_rfl) (fun _ _ _ h => h) (Or.inl ⟨by rfl, ?_⟩) ?_ ?_
                      rotate_left
                      · intro w'
                        go_simp
                        with_reducible rfl
                      rotate_left
                      · simp only [Act.put, List.setIfInBounds_toArray, List.set_cons_zero, List.set_cons_succ, i64_w, i32_w]
                        rfl
                      refine pure_ (i := 6) (N := some 112) (v := ?_) (a' := ?_) #[true, true, true, false, true, true, true, false, false, false, false, false, false, false, false] rfl rfl (by kernel_rfl) (fun _ _ _ h => h) (Or.inl ⟨by rfl, ?_⟩) ?_ ?_
                      rotate_left
                      · intro w'
                        go_simp
                        with_reducible rfl
                      rotate_left
                      · simp only [Act.put, List.setIfInBounds_toArray, List.set_cons_zero, List.set_cons_succ, i64_w, i32_w]
                        rfl
                      refine pure_ (i := 7) (N := some 113) (v := ?_) (a' := ?_) #[true, true, true, false, true, true, true, true, false, false, false, false, false, false, false] rfl rfl (by kernel_rfl) (fun _ _ _ h => h) (Or.inl ⟨by rfl, ?_⟩) ?_ ?_
                      rotate_left
                      · intro w'
                        go_simp
                        with_reducible rfl
                      rotate_left
                      · simp only [Act.put, List.setIfInBounds_toArray, List.set_cons_zero, List.set_cons_succ, i64_w, i32_w]
                        rfl
                      refine pure_ (i := 9) (N := some 115) (v := ?_) (a' := ?_) #[true, true, true, false, true, true, true, true, false, true, false, false, false, false, false] rfl rfl (by kernel_rfl) (fun _ _ _ h => h) (Or.inl ⟨by rfl, ?_⟩) ?_ ?_
                      rotate_left
                      · intro w'
                        go_simp
                        with_reducible rfl
                      rotate_left
                      · simp only [Act.put, List.setIfInBounds_toArray, List.set_cons_zero, List.set_cons_succ, i64_w, i32_w]
                        rfl
                      refine take_ (i := 3) (N := some 109) (v := ?_) (a' := ?_) #[true, true, true, true, true, true, true, true, false, true, false, false, false, false, false] rfl rfl (by kernel_rfl) (fun _ _ _ h => h) (Or.inl ⟨by rfl, ?_⟩) hHeld ?_ ?_
                      rotate_left
                      · rintro w' ⟨s0, s1⟩
                        go_simp
                        with_reducible rfl
                      rotate_left
                      · simp only [Act.put, List.setIfInBounds_toArray, List.set_cons_zero, List.set_cons_succ, i64_w, i32_w]
                        rfl
                      refine take_ (i := 8) (N := some 114) (v := ?_) (a' := ?_) #[true, true, true, true, true, true, true, true, true, true, false, false, false, false, false] rfl rfl (by kernel_rfl) (fun _ _ _ h => h) (Or.inl ⟨by rfl, ?_⟩) hHeld ?_ ?_
                      rotate_left
                      · rintro w' ⟨s0, s1⟩
                        go_simp
                        with_reducible rfl
                      rotate_left
                      · simp only [Act.put, List.setIfInBounds_toArray, List.set_cons_zero, List.set_cons_succ, i64_w, i32_w]
                        rfl
                      refine pure_ (i := 10) (N := some 116) (v := ?_) (a' := ?_) #[true, true, true, true, true, true, true, true, true, true, true, false, false, false, false] rfl rfl (by kernel_rfl) (fun _ _ _ h => h) (Or.inl ⟨by rfl, ?_⟩) ?_ ?_
                      rotate_left
                      · intro w'
                        go_simp
                        with_reducible rfl
                      rotate_left
                      · simp only [Act.put, List.setIfInBounds_toArray, List.set_cons_zero, List.set_cons_succ, i64_w, i32_w]
                        rfl
                      refine take_ (i := 11) (N := some 117) (v := ?_) (a' := ?_) #[true, true, true, true, true, true, true, true, true, true, true, true, false, false, false] rfl rfl (by kernel_rfl) (fun _ _ _ h => h) (Or.inl ⟨by rfl, ?_⟩) hHeld ?_ ?_
                      rotate_left
                      · rintro w' ⟨s0, s1⟩
                        go_simp
                        with_reducible rfl
                      rotate_left
                      · simp only [Act.put, List.setIfInBounds_toArray, List.set_cons_zero, List.set_cons_succ, i64_w, i32_w]
                        rfl
                      refine pure_ (i := 12) (N := some 118) (v := ?_) (a' := ?_) #[true, true, true, true, true, true, true, true, true, true, true, true, true, false, false] rfl rfl (by kernel_rfl) (fun _ _ _ h => h) (Or.inl ⟨by rfl, ?_⟩) ?_ ?_
                      rotate_left
                      · intro w'
                        go_simp
                        with_reducible rfl
                      rotate_left
                      · simp only [Act.put, List.setIfInBounds_toArray, List.set_cons_zero, List.set_cons_succ, i64_w, i32_w]
                        rfl
                      refine pure_ (i := 13) (N := some 119) (v := ?_) (a' := ?_) #[true, true, true, true, true, true, true, true, true, true, true, true, true, true, false] rfl rfl (by kernel_rfl) (fun _ _ _ h => h) (Or.inl ⟨by rfl, ?_⟩) ?_ ?_
                      rotate_left
                      · intro w'
                        go_simp
                        with_reducible rfl
                      rotate_left
                      · simp only [Act.put, List.setIfInBounds_toArray, List.set_cons_zero, List.set_cons_succ, i64_w, i32_w]
                        rfl
                      refine last_ (i := 14) (N := none) #[true, true, true, true, true, true, true, true, true, true, true, true, true, true, true] rfl rfl (by kernel_rfl) (by decide) (fun K hK => ?_)
                      refine skip_ (w1 := ?_) (by rfl) rfl ?_ ?_
                      rotate_left
                      · go_simp
                        rfl
                      refine hK.out _ _ ?_
                      clear hK K
                      refine done_ (by kernel_rfl) ?_
                      -- behind it
                      go_wp2
                      go_roundw
                      case rel =>
                        refine ⟨k + 1, by omega, by go_num, (HR.out.drewN 1).set HLie.out hlt Hb.out HO.out (by rw [Hv.out]; exact HI1.out), ?_⟩
                        show ∃ l : List Int, _
                        apply Exists.intro
                        constructor
                        rotate_left
                        · rw [Hv.out]
                          exact Is.store HI1.out k _
                        · rw [List.length_set]
                          exact HIl.out
                      case measure => simp [intOf]; omega
                    · obtain rfl : k = L := by omega
                      go_wp2_with fail
                      go_loopw [14] (fun v14 wl => ∃ (q m : Nat), i + 1 ≤ q ∧ q ≤ n ∧ v14 = .int .i64 (q : Int) ∧ wl = wr.drewN m) (fun v14 _ => n - (intOf v14).toNat)
                      case atStart => exact ⟨i + 1, 0, by omega, by omega, by go_num, rfl⟩
                      case round =>
                        obtain ⟨q, m, hq1, hq, rfl, rfl⟩ := hrel
                        by_cases hql : q < n
                        · have hcelq : wr.cell? ⟨G, q, none⟩ = some (vs q) := HR.out.row.at q hql
                          have hcel3 : wr.cell? ⟨g3, q, none⟩ = some (us q) := HR.out.was.at q hql
                          obtain ⟨A2, cA2, hv2, hcA2, hC2⟩ := (HR.out.each q (by omega) hql).reads
                          obtain ⟨B2, cB2, hvB2, hcB2, hCB2⟩ := (HR.out.eachU q hql).reads
                          have HEQ := Lib.hid (eq_quiet hC2 hcA2 hCB2 hcB2)
                          rw [hv2] at hcelq
                          rw [hvB2] at hcel3
                          clear hv2 hvB2 hC2 hCB2 hcA2 hcB2 hcell
                          generalize (ls q).length = L2 at *
                          go_wp2
                          go_quiet (exact HEQ.out _ _)
                          go_wp2
                          go_roundw
                          case rel => exact ⟨q + 1, _, by omega, by omega, by go_num, rfl⟩
                          case measure => simp [intOf]; omega
                        · obtain rfl : n = q := by omega
                          go_wp2
                          go_roundw
                          case rel => exact ⟨i + 1, by omega, by go_num, (HR.out.drewN m).next, fun q h1 h2 => HR.out.each q (by omega) h2⟩
                          case measure => simp [intOf]; omega
                · obtain rfl : n = i := by omega
                  go_wp2
                  go_ret
                  exact ⟨rfl, HR.out.below⟩
end Go.Proofs.Ytbebmbcjddibaaa.Apart
namespace Go.Proofs.Ytbebmbcjddibaaa.Gcm
set_option linter.unusedVariables false
set_option linter.unusedSimpArgs false
open Go.RowKit Go.Proofs.YtbebmbcjddibaaaW.PrintWords Go.Proofs.YtbebmbcjddibaaaW.PrintLast Go.Proofs.YtbebmbcjddibaaaW.PrintMore Go.Proofs.Ytbebmbcjddibaaa.PG Gf Gfi Poly AesF Aes Lng
theorem _root_.Go.Proofs.Ytbebmbcjddibaaa.Room.Is.row {W : World} {base : Nat} {v : Value} {l : List Int} (h : Room.Is W base v l) : Row.Is W base v l := by
  obtain ⟨g, cap, e, hc, ho⟩ := h
  have h1 : Row.Is W base (.slice (some ⟨g, 0, none⟩) (l.length + 7) cap) (l ++ Room.tail7) := by
    unfold Row.Is
    rw [show (l ++ Room.tail7).length = l.length + 7 by simp [Room.tail7]]
    exact ho
  rw [e]
  exact h1.take
theorem roomy_t {w : World} {A : Option Addr} {c : Nat} {l : List Int} (h : Txt w A c l) : Calls Try.prog 9 #[.slice A l.length c] w fun e w' =>
    ∃ A' c', e = .returned (.slice A' l.length c') ∧ Txt w' A' c' l ∧ Room.Is w' w.heap.size (.slice A' l.length c') l ∧ Below w.heap.size w w' := by
  have hf := h.few
  refine (Room.roomy_calls A c l w h.row h.le (by omega)).mono ?_
  rintro e w' ⟨v, rfl, hI, hb⟩
  obtain ⟨A', c', rfl, hle, hC⟩ := hI.reads
  exact ⟨A', c', rfl, ⟨hC, hle, h.by_, h.few⟩, hI, hb⟩
theorem kept_t {w : World} {base : Nat} {v : Value} {A : Option Addr} {c : Nat} {l : List Int} (hI : Room.Is w base v l) (h : Txt w A c l) : Calls Try.prog 13 #[v, .slice A l.length c] w fun e w' => e = .returned (.bool true) ∧ Below w.heap.size w w' := by
  refine (Room.kept_calls base v A c l w hI h.row h.le).mono ?_
  rintro e w' ⟨rfl, hb⟩
  exact ⟨rfl, hb.below⟩
/-- What is sealed, whatever the lengths. -/
def sealU (E : (Nat → B) → Nat → B) (nonce : Nat → B) (l1 l2 : List Int) : List Int := if l1.length ≤ 65536 ∧ l2.length ≤ 65536 then sealL E nonce l1 l2 else []
theorem sealU_len (E : (Nat → B) → Nat → B) (nonce : Nat → B) (l1 l2 : List Int) : (sealU E nonce l1 l2).length ≤ 65552 := by
  unfold sealU
  split
  · next h => rw [seal_len]; omega
  · exact Nat.zero_le _
theorem sealU_by (E : (Nat → B) → Nat → B) (nonce : Nat → B) (l1 l2 : List Int) : ∀ x ∈ sealU E nonce l1 l2, 0 ≤ x ∧ x < 256 := fun x hx => by
  unfold sealU at hx
  split at hx
  · exact seal_by _ _ _ _ x hx
  · exact absurd hx (by simp)
variable {key nonce K : Nat → B} {E : (Nat → B) → Nat → B} {w : World} {A1 A2 : Option Addr} {c1 c2 : Nat} {l1 l2 : List Int}
theorem sealU_t (hC : Ciph key K E) (h1 : Txt w A1 c1 l1) (h2 : Txt w A2 c2 l2) (s : List Int) (hs : s = sealU E nonce l1 l2) :
    Calls Try.prog 10 #[.agg (cB 32 key), .agg (cB 12 nonce), .slice A1 l1.length c1, .slice A2 l2.length c2] w fun e w' =>
      ∃ A' c', e = .returned (.slice A' s.length c') ∧ Txt w' A' c' s ∧ Row.Is w' w.heap.size (.slice A' s.length c') s ∧ Below w.heap.size w w' := by
  by_cases h : l1.length ≤ 65536 ∧ l2.length ≤ 65536
  · unfold sealU at hs
    rw [if_pos h] at hs
    exact seal_t hC h1 h2 h.1 h.2 s hs
  · unfold sealU at hs
    rw [if_neg h] at hs
    subst hs
    refine (seal_long key nonce A1 A2 c1 c2 l1 l2 w (by omega)).mono ?_
    rintro e w' ⟨rfl, hb⟩
    exact ⟨none, 0, rfl, txt_nil w', Row.Is.nil _ _, hb⟩
theorem rsealU_t (hC : Ciph key K E) (h1 : Txt w A1 c1 l1) (h2 : Txt w A2 c2 l2) (s : List Int) (hs : s = sealU E nonce l1 l2) :
    Calls Try.prog 11 #[.agg (cB 32 key), .agg (cB 12 nonce), .slice A1 l1.length c1, .slice A2 l2.length c2] w fun e w' =>
      ∃ A' c', e = .returned (.slice A' s.length c') ∧ Txt w' A' c' s ∧ Row.Is w' w.heap.size (.slice A' s.length c') s ∧ Below w.heap.size w w' := by
  by_cases h : l1.length ≤ 65536 ∧ l2.length ≤ 65536
  · unfold sealU at hs
    rw [if_pos h] at hs
    subst hs
    refine (rseal_calls K key nonce E hC.rblock hC.rexp A1 A2 c1 c2 l1 l2 w h1 h2 h.1 h.2).mono ?_
    rintro e w' ⟨v, rfl, hI, hb⟩
    obtain ⟨A', c', rfl, hT⟩ := row_txt hI (seal_by _ _ _ _) (by rw [seal_len]; omega)
    exact ⟨A', c', rfl, hT, hI, hb⟩
  · unfold sealU at hs
    rw [if_neg h] at hs
    subst hs
    refine (rseal_long key nonce A1 A2 c1 c2 l1 l2 w (by omega)).mono ?_
    rintro e w' ⟨rfl, hb⟩
    exact ⟨none, 0, rfl, txt_nil w', Row.Is.nil _ _, hb⟩
/-- What is opened, whatever the lengths: the error, and the bytes. -/
def openE (E : (Nat → B) → Nat → B) (nonce : Nat → B) (l1 l2 : List Int) : Int := if l2.length < 16 then 10 else if 65536 < l1.length ∨ 65536 < l2.length - 16 then 3 else if tagOk E nonce l1 l2 (l2.length - 16) = true then 0 else 60
def openL (E : (Nat → B) → Nat → B) (nonce : Nat → B) (l1 l2 : List Int) : List Int := if openE E nonce l1 l2 = 0 then bodyL E nonce (l2.take (l2.length - 16)) else []
theorem openL_by (E : (Nat → B) → Nat → B) (nonce : Nat → B) (l1 l2 : List Int) : ∀ x ∈ openL E nonce l1 l2, 0 ≤ x ∧ x < 256 := fun x hx => by
  unfold openL at hx
  split at hx
  · exact body_by _ _ _ x hx
  · exact absurd hx (by simp)
theorem openL_len (E : (Nat → B) → Nat → B) (nonce : Nat → B) (l1 l2 : List Int) : (openL E nonce l1 l2).length ≤ l2.length := by
  unfold openL
  split
  · rw [body_len, List.length_take]; omega
  · exact Nat.zero_le _
theorem openU_of {f : FuncId} {w : World} (hs : ∀ w : World, l2.length < 16 → Calls Try.prog f #[.agg (cB 32 key), .agg (cB 12 nonce), .slice A1 l1.length c1, .slice A2 l2.length c2] w fun e w' => e = .returned (.tuple #[.slice none 0 0, .int .i64 10]) ∧ Below w.heap.size w w')
    (hl : ∀ n, l2.length = n + 16 → n < 1000000 → (65536 < l1.length ∨ 65536 < n) → Calls Try.prog f #[.agg (cB 32 key), .agg (cB 12 nonce), .slice A1 l1.length c1, .slice A2 l2.length c2] w fun e w' => e = .returned (.tuple #[.slice none 0 0, .int .i64 3]) ∧ Below w.heap.size w w')
    (hc : ∀ n, l2.length = n + 16 → l1.length ≤ 65536 → n ≤ 65536 → ∀ d, d = tagOk E nonce l1 l2 n → Calls Try.prog f #[.agg (cB 32 key), .agg (cB 12 nonce), .slice A1 l1.length c1, .slice A2 l2.length c2] w fun e w' => ∃ v, e = .returned (.tuple #[v, .int .i64 (if d = true then 0 else 60)]) ∧ Row.Is w' w.heap.size v (if d = true then bodyL E nonce (l2.take n) else []) ∧ Below w.heap.size w w')
    (hf : l2.length < 1000000) (p : List Int) (hp : p = openL E nonce l1 l2) (code : Int) (hcd : code = openE E nonce l1 l2) :
    Calls Try.prog f #[.agg (cB 32 key), .agg (cB 12 nonce), .slice A1 l1.length c1, .slice A2 l2.length c2] w fun e w' =>
      ∃ A' c', e = .returned (.tuple #[.slice A' p.length c', .int .i64 code]) ∧ Txt w' A' c' p ∧ Row.Is w' w.heap.size (.slice A' p.length c') p ∧ Below w.heap.size w w' := by
  by_cases h16 : l2.length < 16
  · have e1 : openE E nonce l1 l2 = 10 := by unfold openE; rw [if_pos h16]
    have e2 : openL E nonce l1 l2 = [] := by unfold openL; rw [e1, if_neg (by decide)]
    subst hp hcd
    rw [e1, e2]
    refine (hs w h16).mono ?_
    rintro e w' ⟨rfl, hb⟩
    exact ⟨none, 0, rfl, txt_nil w', Row.Is.nil _ _, hb⟩
  · by_cases hlong : 65536 < l1.length ∨ 65536 < l2.length - 16
    · have e1 : openE E nonce l1 l2 = 3 := by unfold openE; rw [if_neg h16, if_pos hlong]
      have e2 : openL E nonce l1 l2 = [] := by unfold openL; rw [e1, if_neg (by decide)]
      subst hp hcd
      rw [e1, e2]
      refine (hl (l2.length - 16) (by omega) (by omega) hlong).mono ?_
      rintro e w' ⟨rfl, hb⟩
      exact ⟨none, 0, rfl, txt_nil w', Row.Is.nil _ _, hb⟩
    · have e1 : openE E nonce l1 l2 = if tagOk E nonce l1 l2 (l2.length - 16) = true then 0 else 60 := by unfold openE; rw [if_neg h16, if_neg hlong]
      refine (hc (l2.length - 16) (by omega) (by omega) (by omega) _ rfl).mono ?_
      rintro e w' ⟨v, rfl, hI, hb⟩
      have e2 : (if tagOk E nonce l1 l2 (l2.length - 16) = true then bodyL E nonce (l2.take (l2.length - 16)) else []) = p := by
        rw [hp]
        unfold openL
        rw [e1]
        cases tagOk E nonce l1 l2 (l2.length - 16) <;> rfl
      rw [e2] at hI
      rw [← e1, ← hcd]
      obtain ⟨A', c', rfl, hT⟩ := row_txt hI (by rw [hp]; exact openL_by _ _ _ _) (by rw [hp]; have := openL_len E nonce l1 l2; omega)
      exact ⟨A', c', rfl, hT, hI, hb⟩
theorem openU_t (hC : Ciph key K E) (h1 : Txt w A1 c1 l1) (h2 : Txt w A2 c2 l2) (p : List Int) (hp : p = openL E nonce l1 l2) (code : Int) (hcd : code = openE E nonce l1 l2) :
    Calls Try.prog 15 #[.agg (cB 32 key), .agg (cB 12 nonce), .slice A1 l1.length c1, .slice A2 l2.length c2] w fun e w' =>
      ∃ A' c', e = .returned (.tuple #[.slice A' p.length c', .int .i64 code]) ∧ Txt w' A' c' p ∧ Row.Is w' w.heap.size (.slice A' p.length c') p ∧ Below w.heap.size w w' :=
  openU_of (fun w h => open_short key nonce A1 A2 c1 c2 l1 l2 w h) (fun n hn hf hl => open_long key nonce A1 A2 c1 c2 l1 l2 w n hn hf hl) (fun n hn hs1 hs2 d hd => open_calls key nonce K E hC.block hC.exp A1 A2 c1 c2 l1 l2 w h1 h2 n hn hs1 hs2 d hd) h2.few p hp code hcd
theorem ropenU_t (hC : Ciph key K E) (h1 : Txt w A1 c1 l1) (h2 : Txt w A2 c2 l2) (p : List Int) (hp : p = openL E nonce l1 l2) (code : Int) (hcd : code = openE E nonce l1 l2) :
    Calls Try.prog 16 #[.agg (cB 32 key), .agg (cB 12 nonce), .slice A1 l1.length c1, .slice A2 l2.length c2] w fun e w' =>
      ∃ A' c', e = .returned (.tuple #[.slice A' p.length c', .int .i64 code]) ∧ Txt w' A' c' p ∧ Row.Is w' w.heap.size (.slice A' p.length c') p ∧ Below w.heap.size w w' :=
  openU_of (fun w h => ropen_short key nonce A1 A2 c1 c2 l1 l2 w h) (fun n hn hf hl => ropen_long key nonce A1 A2 c1 c2 l1 l2 w n hn hf hl) (fun n hn hs1 hs2 d hd => ropen_calls K key nonce E hC.rblock hC.rexp A1 A2 c1 c2 l1 l2 w h1 h2 n hn hs1 hs2 d hd) h2.few p hp code hcd
/-- Four rows, and three. -/
def four (a b c d : Value) : Nat → Value := fun q => [a, b, c, d].getD q a
theorem four_rows (a b c d : Value) : Apart.rows 4 (four a b c d) = [a, b, c, d] := rfl
def fourL (a b c d : List Int) : Nat → List Int := fun q => [a, b, c, d].getD q a
def three (a b c : Value) : Nat → Value := fun q => [a, b, c].getD q a
theorem three_rows (a b c : Value) : Apart.rows 3 (three a b c) = [a, b, c] := rfl
def threeL (a b c : List Int) : Nat → List Int := fun q => [a, b, c].getD q a
/-- The blocks of a row lie in a range. -/
def In (v : Value) (m n : Nat) : Prop := ∀ k, v.ownBlock = some k → m ≤ k ∧ k < n
theorem in_ne {v u : Value} {a b c d : Nat} (h1 : In v a b) (h2 : In u c d) (h : b ≤ c ∨ d ≤ a) : ∀ k, v.ownBlock = some k → u.ownBlock ≠ some k := fun k hk hu => by
  have := h1 k hk
  have := h2 k hu
  omega
theorem four_un {a b c d : Value} {n1 n2 n3 n4 m1 m2 m3 m4 : Nat} (ha : In a n3 m3) (hb : In b n1 m1) (hc : In c n4 m4) (hd : In d n2 m2) (h12 : m1 ≤ n2) (h23 : m2 ≤ n3) (h34 : m3 ≤ n4) (k2 : n2 ≤ m2) (k3 : n3 ≤ m3) :
    ∀ p q, p < 4 → q < 4 → p ≠ q → ∀ k, (four a b c d p).ownBlock = some k → (four a b c d q).ownBlock ≠ some k := by
  intro p q hp hq hne
  rcases (show p = 0 ∨ p = 1 ∨ p = 2 ∨ p = 3 by omega) with rfl | rfl | rfl | rfl <;> rcases (show q = 0 ∨ q = 1 ∨ q = 2 ∨ q = 3 by omega) with rfl | rfl | rfl | rfl
  · exact absurd rfl hne
  · exact in_ne ha hb (by omega)
  · exact in_ne ha hc (by omega)
  · exact in_ne ha hd (by omega)
  · exact in_ne hb ha (by omega)
  · exact absurd rfl hne
  · exact in_ne hb hc (by omega)
  · exact in_ne hb hd (by omega)
  · exact in_ne hc ha (by omega)
  · exact in_ne hc hb (by omega)
  · exact absurd rfl hne
  · exact in_ne hc hd (by omega)
  · exact in_ne hd ha (by omega)
  · exact in_ne hd hb (by omega)
  · exact in_ne hd hc (by omega)
  · exact absurd rfl hne
theorem three_un {a b c : Value} {n1 n2 n3 m1 m2 m3 : Nat} (ha : In a n3 m3) (hb : In b n2 m2) (hc : In c n1 m1) (h12 : m1 ≤ n2) (h23 : m2 ≤ n3) (k2 : n2 ≤ m2) :
    ∀ p q, p < 3 → q < 3 → p ≠ q → ∀ k, (three a b c p).ownBlock = some k → (three a b c q).ownBlock ≠ some k := by
  intro p q hp hq hne
  rcases (show p = 0 ∨ p = 1 ∨ p = 2 by omega) with rfl | rfl | rfl <;> rcases (show q = 0 ∨ q = 1 ∨ q = 2 by omega) with rfl | rfl | rfl
  · exact absurd rfl hne
  · exact in_ne ha hb (by omega)
  · exact in_ne ha hc (by omega)
  · exact in_ne hb ha (by omega)
  · exact absurd rfl hne
  · exact in_ne hb hc (by omega)
  · exact in_ne hc ha (by omega)
  · exact in_ne hc hb (by omega)
  · exact absurd rfl hne
theorem lit4 (W : World) (base : Nat) (hb : base ≤ W.heap.size) (a b c d : Value) : Row.IsV (W.alloc (.cells #[a, b, c, d] 24)) base (.slice (some ⟨W.heap.size, 0, none⟩) 4 4) [a, b, c, d] := by
  refine ⟨rfl, .inr ⟨W.heap.size, 4, #[a, b, c, d], rfl, hb, heap_alloc_new W _, Nat.le_refl _, by decide, rfl, rfl⟩⟩
theorem lit3 (W : World) (base : Nat) (hb : base ≤ W.heap.size) (a b c : Value) : Row.IsV (W.alloc (.cells #[a, b, c] 24)) base (.slice (some ⟨W.heap.size, 0, none⟩) 3 3) [a, b, c] := by
  refine ⟨rfl, .inr ⟨W.heap.size, 3, #[a, b, c], rfl, hb, heap_alloc_new W _, Nat.le_refl _, by decide, rfl, rfl⟩⟩
end Go.Proofs.Ytbebmbcjddibaaa.Gcm
