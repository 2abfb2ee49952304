/- What is said here: the reference's reader: what each of its methods answers, and what is left of it. -/
import Derived.Test.YtengdchgfhcdhaaReader3
import Derived.Test.YtengdchgfhcdhaaStr
import Derived.BigQuiet
import Derived.Deep.QuietTactic
import Derived.WalkSpells
namespace Go.Proofs.Ytengdchgfhcdhaa.RReader
set_option linter.unusedVariables false
set_option linter.unusedSimpArgs false
open Go.RowKit Go.Proofs.YtengdchgfhcdhaaW.PrintWords Go.Proofs.YtengdchgfhcdhaaW.PrintLast Go.Proofs.YtengdchgfhcdhaaW.PrintMore
open Reader (Only)

/-- A reader stands at block g. -/
structure Is (W : World) (base g : Nat) (A : Option Addr) (c : Nat) (s : Reader.St) : Prop where
  ex : Blk.Is W g #[.slice A s.bs.length c, .int .i64 (s.at_ : Int), .int .i64 s.e] 79 ∧ Row.Is W base (.slice A s.bs.length c) s.bs ∧ (Value.slice A s.bs.length c).ownBlock ≠ some g
  base : base ≤ g
  at_ : s.at_ ≤ s.bs.length
  e0 : 0 ≤ s.e
  e1 : s.e ≤ 1000
theorem Is.below {W W' : World} {base g : Nat} {A : Option Addr} {c : Nat} {s : Reader.St} (h : Is W base g A c s) (hb : Below W.heap.size W W') : Is W' base g A c s := by
  obtain ⟨h1, h2, h3⟩ := h.ex
  exact ⟨⟨h1.below hb h1.lt, h2.below hb, h3⟩, h.base, h.at_, h.e0, h.e1⟩
/-- Nothing of the reader's has been written. -/
theorem Is.move {W W' : World} {base g : Nat} {A : Option Addr} {c : Nat} {s : Reader.St} (h : Is W base g A c s) (hm : ∀ k, k = g ∨ (Value.slice A s.bs.length c).ownBlock = some k → W'.heap[k]? = W.heap[k]?) : Is W' base g A c s := by
  obtain ⟨h1, h2, h3⟩ := h.ex
  exact ⟨⟨(hm g (Or.inl rfl)).trans h1, h2.move (fun k hk => hm k (Or.inr hk)), h3⟩, h.base, h.at_, h.e0, h.e1⟩
theorem Is.lt {W : World} {base g : Nat} {A : Option Addr} {c : Nat} {s : Reader.St} (h : Is W base g A c s) : g < W.heap.size := h.ex.1.lt
theorem Is.lt' {W : World} {base g : Nat} {A : Option Addr} {c : Nat} {s : Reader.St} (h : Is W base g A c s) (k : Nat) (hk : (Value.slice A s.bs.length c).ownBlock = some k) : base ≤ k ∧ k < W.heap.size := h.ex.2.1.lt k hk
theorem Is.lower {W : World} {base g : Nat} {A : Option Addr} {c : Nat} {s : Reader.St} (h : Is W base g A c s) {b : Nat} (hb : b ≤ base) : Is W b g A c s := ⟨⟨h.ex.1, h.ex.2.1.lower hb, h.ex.2.2⟩, Nat.le_trans hb h.base, h.at_, h.e0, h.e1⟩
theorem Is.drewN {W : World} {base g : Nat} {A : Option Addr} {c : Nat} {s : Reader.St} (h : Is W base g A c s) (n : Nat) : Is (W.drewN n) base g A c s := ⟨h.ex, h.base, h.at_, h.e0, h.e1⟩


theorem Err_calls (g base : Nat) (A : Option Addr) (c : Nat) (s : Reader.St) (w : World) (h : Is w base g A c s) : Calls Try.prog 51 #[.pointer (some ⟨g, 0, none⟩)] w fun e w' => e = .returned (.int .i64 s.e) ∧ w = w' := by
  obtain ⟨h1, h2, h3⟩ := h.ex
  have x2 : w.cell? ⟨g, 2, none⟩ = some (.int .i64 s.e) := h1.cell 2
  clear h h1 h2 h3
  go_enter Try.func51, Try.ntmps51
  go_wp2
  go_ret
  exact ⟨rfl, rfl⟩
theorem Left_calls (g base : Nat) (A : Option Addr) (c : Nat) (s : Reader.St) (w : World) (h : Is w base g A c s) : Calls Try.prog 50 #[.pointer (some ⟨g, 0, none⟩)] w fun e w' => e = .returned (.int .i64 ((s.bs.length : Int) - s.at_)) ∧ Drawn0 w w' := by
  obtain ⟨h1, h2, h3⟩ := h.ex
  have hat := h.at_
  have x0 : w.cell? ⟨g, 0, none⟩ = some (.slice A s.bs.length c) := h1.cell 0
  have x1 : w.cell? ⟨g, 1, none⟩ = some (.int .i64 (s.at_ : Int)) := h1.cell 1
  have hmx := h2.max
  have hm1 := hmx.1
  have hm2 := hmx.2
  have hw1 : IntKind.i64.wrap ((s.bs.length : Int) - (s.at_ : Int)) = (s.bs.length : Int) - (s.at_ : Int) := IntWalk.i64_in _ (by omega)
  clear h h1 h2 h3 hmx
  go_enter Try.func50, Try.ntmps50
  go_wp2
  go_quiet (fail)
  go_wp2
  go_ret
  exact ⟨rfl, ⟨_, rfl⟩⟩

/-- May so many bytes be read? -/
def fitsB (s : Reader.St) (n : Int) : Bool := s.e == 0 && decide (n ≤ (s.bs.length : Int) - s.at_)
def fitsS (s : Reader.St) (n : Int) : Reader.St := if s.e ≠ 0 then s else if (s.bs.length : Int) - s.at_ < n then { s with e := 10 } else s
set_option maxHeartbeats 1000000 in
theorem fits_calls (g base : Nat) (A : Option Addr) (c : Nat) (s : Reader.St) (n : Int) (w : World) (h : Is w base g A c s) : Calls Try.prog 57 #[.pointer (some ⟨g, 0, none⟩), .int .i64 n] w fun e w' => e = .returned (.bool (fitsB s n)) ∧ Is w' base g A c (fitsS s n) ∧ Only g w w' := by
  obtain ⟨h1, h2, h3⟩ := h.ex
  have x2 : w.cell? ⟨g, 2, none⟩ = some (.int .i64 s.e) := h1.cell 2
  have y2 := h1.free 2
  have H := Lib.hid h
  clear h h1 h2 h3
  by_cases h_e : s.e = 0
  · have hez : (s.e == 0) = true := beq_iff_eq.mpr h_e
    have hez2 : (s.e != 0) = false := by rw [bne, hez]; rfl
    have HL := Lib.hid (Left_calls g base A c s w H.out)
    by_cases hn : (s.bs.length : Int) - s.at_ < n
    · have eB : fitsB s n = false := by unfold fitsB; rw [decide_eq_false (by omega), Bool.and_false]
      have eS : fitsS s n = { s with e := 10 } := by unfold fitsS; rw [if_neg (fun h => h h_e), if_pos hn]
      rw [eB, eS]
      have hn2 : n > (s.bs.length : Int) - s.at_ := hn
      clear eB eS h_e
      go_enter Try.func57, Try.ntmps57
      go_wp2_with fail
      refine HL.out.mono ?_
      rintro e w1 ⟨rfl, n1, rfl⟩
      have z2 : (w.drewN n1).frozen? ⟨g, 2, none⟩ = false := y2
      go_wp2
      go_ret
      obtain ⟨h1, h2, h3⟩ := (H.out.drewN n1).ex
      exact ⟨rfl, ⟨⟨h1.set 2 _, h2.other (by simpa using h3) _, h3⟩, H.out.base, H.out.at_, by simp, by simp⟩, ((Only.refl _ _).drewN _).set _ _⟩
    · have eB : fitsB s n = true := by unfold fitsB; rw [hez, decide_eq_true (by omega)]; rfl
      have eS : fitsS s n = s := by unfold fitsS; rw [if_neg (fun h => h h_e), if_neg hn]
      rw [eB, eS]
      have hn2 : ¬ n > (s.bs.length : Int) - s.at_ := hn
      clear eB eS h_e
      go_enter Try.func57, Try.ntmps57
      go_wp2_with fail
      refine HL.out.mono ?_
      rintro e w1 ⟨rfl, n1, rfl⟩
      go_wp2
      go_ret
      exact ⟨rfl, H.out.drewN n1, (Only.refl _ _).drewN _⟩
  · have hez2 : (s.e != 0) = true := bne_iff_ne.mpr h_e
    have eB : fitsB s n = false := by unfold fitsB; rw [beq_eq_false_iff_ne.mpr h_e]; rfl
    have eS : fitsS s n = s := by unfold fitsS; rw [if_pos h_e]
    rw [eB, eS]
    clear eB eS h_e
    go_enter Try.func57, Try.ntmps57
    go_wp2
    go_ret
    exact ⟨rfl, H.out, Only.refl _ _⟩

set_option maxHeartbeats 1000000 in
theorem Read_calls (A0 : Option Addr) (c0 : Nat) (b : List Int) (w : World) (hr : Kd.C (Kd.int .u8) w A0 b.length b) (hl : b.length ≤ 100000000000000) :
    Calls Try.prog 23 #[.slice A0 b.length c0] w fun e w' => ∃ g A c, e = .returned (.pointer (some ⟨g, 0, none⟩)) ∧ Is w' w.heap.size g A c ⟨b, 0, 0⟩ ∧ Below w.heap.size w w' := by
  have HR := Lib.hid hr
  clear hr
  go_enter Try.func23, Try.ntmps23
  go_wp2_with (refine Row.appendRow w.heap.size _ _ (.slice none 0 0) [] A0 b.length c0 b rfl rfl rfl rfl rfl (Row.Is.nil _ _) HR.out (Nat.le_refl _) (by simpa using hl) ?_; intro v1 w2 h1 h2 h3 h4; obtain ⟨A, c, rfl, hlc, _⟩ := h1.reads)
  have H1 := Lib.hid h1
  have H2 := Lib.hid h2
  clear h1 h2 h3 h4
  go_ret
  refine ⟨_, A, c, rfl, ⟨⟨Blk.Is.new _ _ _, H1.out.alloc _, ?_⟩, H2.out.size, Nat.zero_le _, by simp, by simp⟩, H2.out.alloc H2.out.size _⟩
  intro h
  exact absurd (H1.out.lt _ h).2 (by omega)
end Go.Proofs.Ytengdchgfhcdhaa.RReader
