/- What is said here: octet's reader: what each of its methods answers, and what is left of it. -/
import Derived.Test.YtengdchgfhcdhaaRow
import Derived.Test.YtengdchgfhcdhaaBlk
import Derived.BigQuiet
import Derived.Deep.QuietTactic
import Derived.WalkSpells
namespace Go.Proofs.Ytengdchgfhcdhaa.Reader
set_option linter.unusedVariables false
set_option linter.unusedSimpArgs false
open Go.RowKit Go.Proofs.YtengdchgfhcdhaaW.PrintWords Go.Proofs.YtengdchgfhcdhaaW.PrintLast Go.Proofs.YtengdchgfhcdhaaW.PrintMore

/-- What a reader is. -/
structure St where
  bs : List Int
  at_ : Nat
  e : Int
/-- A reader stands at block g. -/
structure Is (W : World) (base g : Nat) (A : Option Addr) (c : Nat) (s : St) : Prop where
  ex : Blk.Is W g #[.slice A s.bs.length c, .int .i64 (s.at_ : Int), .int .i64 s.e] 77 ∧ Row.Is W base (.slice A s.bs.length c) s.bs ∧ (Value.slice A s.bs.length c).ownBlock ≠ some g
  base : base ≤ g
  at_ : s.at_ ≤ s.bs.length
  e0 : 0 ≤ s.e
  e1 : s.e ≤ 1000
/-- What take answers, and what is left. -/
def St.takeL (s : St) (n : Int) : List Int := if s.e ≠ 0 then [] else if n < 0 then [] else if (s.bs.length : Int) - s.at_ < n then [] else (s.bs.drop s.at_).take n.toNat
def St.takeS (s : St) (n : Int) : St := if s.e ≠ 0 then s else if n < 0 then { s with e := 2 } else if (s.bs.length : Int) - s.at_ < n then { s with e := 10 } else { s with at_ := s.at_ + n.toNat }

/-- Only block g has been written. -/
structure Only (g : Nat) (w w' : World) : Prop where
  os : w'.os = w.os
  tape : w'.tape = w.tape
  output : w'.output = w.output
  size : w.heap.size ≤ w'.heap.size
  block : ∀ k, k < w.heap.size → k ≠ g → w'.heap[k]? = w.heap[k]?
theorem Only.refl (g : Nat) (w : World) : Only g w w := ⟨rfl, rfl, rfl, Nat.le_refl _, fun _ _ _ => rfl⟩
theorem Only.trans {g : Nat} {a b c : World} (h : Only g a b) (k : Only g b c) : Only g a c :=
  ⟨k.os.trans h.os, k.tape.trans h.tape, k.output.trans h.output, Nat.le_trans h.size k.size, fun i hi hg => (k.block i (Nat.lt_of_lt_of_le hi h.size) hg).trans (h.block i hi hg)⟩
theorem Only.drewN {g : Nat} {w w' : World} (h : Only g w w') (n : Nat) : Only g w (w'.drewN n) := ⟨h.os, h.tape, h.output, h.size, h.block⟩
theorem Only.set {g : Nat} {w w' : World} (h : Only g w w') (i : Nat) (v : Value) : Only g w (w'.setCell ⟨g, i, none⟩ v) :=
  h.trans ⟨rfl, rfl, rfl, by simp [World.setCell], fun k _ hg => Below.heap_setCell _ _ _ _ hg⟩
theorem Only.of_below {g : Nat} {w w' : World} (h : Below w.heap.size w w') : Only g w w' := ⟨h.os, h.tape, h.output, h.size, fun k hk _ => h.block k hk⟩
theorem Only.below {g B : Nat} {w w' : World} (h : Only g w w') (hg : B ≤ g) (hB : B ≤ w.heap.size) : Below B w w' := ⟨h.os, h.tape, h.output, h.size, fun k hk => h.block k (by omega) (by omega)⟩
theorem Only.step {g B : Nat} {w0 w w' : World} (h : Only g w w') (hb : Below B w0 w) (hg : B ≤ g) (hB : B ≤ w0.heap.size) : Below B w0 w' := hb.trans (h.below hg (Nat.le_trans hB hb.size))

theorem Is.below {W W' : World} {base g : Nat} {A : Option Addr} {c : Nat} {s : St} (h : Is W base g A c s) (hb : Below W.heap.size W W') : Is W' base g A c s := by
  obtain ⟨h1, h2, h3⟩ := h.ex
  exact ⟨⟨h1.below hb h1.lt, h2.below hb, h3⟩, h.base, h.at_, h.e0, h.e1⟩
/-- Nothing of the reader's has been written. -/
theorem Is.move {W W' : World} {base g : Nat} {A : Option Addr} {c : Nat} {s : St} (h : Is W base g A c s) (hm : ∀ k, k = g ∨ (Value.slice A s.bs.length c).ownBlock = some k → W'.heap[k]? = W.heap[k]?) : Is W' base g A c s := by
  obtain ⟨h1, h2, h3⟩ := h.ex
  exact ⟨⟨(hm g (Or.inl rfl)).trans h1, h2.move (fun k hk => hm k (Or.inr hk)), h3⟩, h.base, h.at_, h.e0, h.e1⟩
theorem Is.lt {W : World} {base g : Nat} {A : Option Addr} {c : Nat} {s : St} (h : Is W base g A c s) : g < W.heap.size := h.ex.1.lt
theorem Is.lt' {W : World} {base g : Nat} {A : Option Addr} {c : Nat} {s : St} (h : Is W base g A c s) (k : Nat) (hk : (Value.slice A s.bs.length c).ownBlock = some k) : base ≤ k ∧ k < W.heap.size := h.ex.2.1.lt k hk
theorem Is.lower {W : World} {base g : Nat} {A : Option Addr} {c : Nat} {s : St} (h : Is W base g A c s) {b : Nat} (hb : b ≤ base) : Is W b g A c s := ⟨⟨h.ex.1, h.ex.2.1.lower hb, h.ex.2.2⟩, Nat.le_trans hb h.base, h.at_, h.e0, h.e1⟩
theorem Is.drewN {W : World} {base g : Nat} {A : Option Addr} {c : Nat} {s : St} (h : Is W base g A c s) (n : Nat) : Is (W.drewN n) base g A c s := ⟨h.ex, h.base, h.at_, h.e0, h.e1⟩

theorem take_nil (n : Int) (w : World) : Calls Try.prog 53 #[.pointer none, .int .i64 n] w fun e w' => e = .returned (.slice none 0 0) ∧ w = w' := by
  go_enter Try.func53, Try.ntmps53
  go_wp2
  go_ret
  exact ⟨rfl, rfl⟩

set_option maxRecDepth 100000 in
set_option maxHeartbeats 1000000 in
theorem take_calls (g base : Nat) (A : Option Addr) (c : Nat) (s : St) (n : Int) (w : World) (h : Is w base g A c s) (hn : -9223372036854775808 ≤ n) (hn2 : n ≤ 9223372036854775807) :
    Calls Try.prog 53 #[.pointer (some ⟨g, 0, none⟩), .int .i64 n] w fun e w' => ∃ A2 c2, e = .returned (.slice A2 (s.takeL n).length c2) ∧ (s.takeL n).length ≤ c2 ∧ Kd.C (Kd.int .u8) w' A2 (s.takeL n).length (s.takeL n) ∧ Is w' base g A c (s.takeS n) ∧ Only g w w' := by
  obtain ⟨h1, h2, h3⟩ := h.ex
  obtain ⟨hbase, hat, he0, he1⟩ : base ≤ g ∧ s.at_ ≤ s.bs.length ∧ 0 ≤ s.e ∧ s.e ≤ 1000 := ⟨h.base, h.at_, h.e0, h.e1⟩
  have x0 : w.cell? ⟨g, 0, none⟩ = some (.slice A s.bs.length c) := h1.cell 0
  have x1 : w.cell? ⟨g, 1, none⟩ = some (.int .i64 (s.at_ : Int)) := h1.cell 1
  have x2 : w.cell? ⟨g, 2, none⟩ = some (.int .i64 s.e) := h1.cell 2
  have y0 := h1.free 0
  have y1 := h1.free 1
  have y2 := h1.free 2
  have hmx := h2.max
  have hm1 := hmx.1
  have hm2 := hmx.2
  by_cases h_e : s.e = 0
  · have hez : (s.e == 0) = true := beq_iff_eq.mpr h_e
    have hez2 : (s.e != 0) = false := by rw [bne, hez]; rfl
    have HB1 := Lib.hid h1
    have HR2 := Lib.hid h2
    have H3 := Lib.hid h3
    rw [h_e] at x2
    by_cases hneg : n < 0
    · have eL : s.takeL n = [] := by rw [St.takeL, if_neg (fun h => h h_e), if_pos hneg]
      have eS : s.takeS n = { s with e := 2 } := by rw [St.takeS, if_neg (fun h => h h_e), if_pos hneg]
      rw [eL, eS]
      clear h h1 h2 h3 hmx eL eS h_e hez hez2 he0 he1
      go_enter Try.func53, Try.ntmps53
      go_wp2
      go_ret
      exact ⟨none, 0, rfl, Nat.le_refl _, ⟨rfl, by simp, fun hp => absurd hp (by simp)⟩, ⟨⟨HB1.out.set 2 _, HR2.out.other (by simpa using H3.out) _, H3.out⟩, hbase, hat, by simp, by simp⟩, (Only.refl _ _).set _ _⟩
    · by_cases hfar : (s.bs.length : Int) - s.at_ < n
      · have eL : s.takeL n = [] := by rw [St.takeL, if_neg (fun h => h h_e), if_neg hneg, if_pos hfar]
        have eS : s.takeS n = { s with e := 10 } := by rw [St.takeS, if_neg (fun h => h h_e), if_neg hneg, if_pos hfar]
        rw [eL, eS]
        clear h h1 h2 h3 hmx eL eS h_e hez hez2 he0 he1
        go_enter Try.func53, Try.ntmps53
        go_wp2
        go_quiet (fail)
        go_wp2
        go_ret
        exact ⟨none, 0, rfl, Nat.le_refl _, ⟨rfl, by simp, fun hp => absurd hp (by simp)⟩, ⟨⟨(HB1.out.drewN _).set 2 _, (HR2.out.drewN _).other (by simpa using H3.out) _, H3.out⟩, hbase, hat, by simp, by simp⟩, ((Only.refl _ _).drewN _).set _ _⟩
      · obtain ⟨m, rfl⟩ := Int.eq_ofNat_of_zero_le (by omega : 0 ≤ n)
        have hm : s.at_ + m ≤ s.bs.length := by omega
        have eL : s.takeL (m : Int) = (s.bs.take (s.at_ + m)).drop s.at_ := by
          rw [St.takeL, if_neg (fun h => h h_e), if_neg hneg, if_neg hfar, Int.toNat_natCast, List.drop_take, Nat.add_sub_cancel_left]
        have eS : s.takeS (m : Int) = { s with at_ := s.at_ + m } := by rw [St.takeS, if_neg (fun h => h h_e), if_neg hneg, if_neg hfar, Int.toNat_natCast]
        have hlen : (s.takeL (m : Int)).length = m := by rw [eL, List.length_drop, List.length_take]; omega
        obtain ⟨i0, hi0, _, hsz0, _⟩ := info_parts Row.infoB
        have hcut := cut_mid (P := Try.prog) 22 5 .i64 .i64 Try.underlying22 hi0 1 hsz0 A s.bs.length c (s.at_ : Int) ((s.at_ : Int) + (m : Int)) (by omega) (by omega) (by omega) hm1
        have hmid : ∀ W, Row.Is W base (.slice A s.bs.length c) s.bs → Kd.C (Kd.int .u8) W (if c = s.at_ then A else A.map (·.add (s.at_ * 1))) ((s.bs.take (s.at_ + m)).drop s.at_).length ((s.bs.take (s.at_ + m)).drop s.at_) := fun W hW => Kd.C_mid (k := Kd.int .u8) (lo := s.at_) (hi := s.at_ + m) hW.reads'.2.2 (by omega) hm hm1
        rw [← eL] at hmid
        rw [show ((s.at_ : Int) + (m : Int)).toNat - (s.at_ : Int).toNat = m by omega, Int.toNat_natCast] at hcut
        generalize (if c = s.at_ then A else A.map (·.add (s.at_ * 1))) = A2 at hmid hcut
        rw [eS]
        have HL := Lib.hid hlen
        have HM := Lib.hid hmid
        have He := Lib.hid h_e
        clear h h1 h2 h3 hmx eL eS h_e hez hez2 he0 he1 hi0 hsz0 hlen hmid
        go_enter Try.func53, Try.ntmps53
        have hw1 : IntKind.i64.wrap (s.at_ : Int) = (s.at_ : Int) := IntWalk.i64_in _ (by omega)
        have hw2 : IntKind.i64.wrap ((s.at_ : Int) + (m : Int)) = (s.at_ : Int) + (m : Int) := IntWalk.i64_in _ (by omega)
        have hw3 : ((s.at_ : Int) + (m : Int)) - (m : Int) = (s.at_ : Int) := by omega
        go_wp2
        go_quiet (fail)
        go_wp2
        go_quiet (fail)
        go_wp2
        go_ret
        rw [HL.out]
        refine ⟨A2, c - s.at_, rfl, by omega, ?_, ⟨⟨?_, ?_, H3.out⟩, hbase, by show s.at_ + m ≤ s.bs.length; exact hm, by show 0 ≤ s.e; rw [He.out]; omega, by show s.e ≤ 1000; rw [He.out]; omega⟩, (((Only.refl _ _).drewN _).set _ _).drewN _⟩
        · have h5 := HM.out
          rw [HL.out] at h5
          exact h5 _ (((HR2.out.drewN _).other (by simpa using H3.out) _).drewN _)
        · exact ((HB1.out.drewN _).set 1 _).drewN _
        · exact ((HR2.out.drewN _).other (by simpa using H3.out) _).drewN _
  · have hez2 : (s.e != 0) = true := bne_iff_ne.mpr h_e
    have eL : s.takeL n = [] := by rw [St.takeL, if_pos h_e]
    have eS : s.takeS n = s := by rw [St.takeS, if_pos h_e]
    rw [eL, eS]
    have H := Lib.hid h
    clear h h1 h2 h3 hmx eL eS h_e
    go_enter Try.func53, Try.ntmps53
    go_wp2
    go_ret
    exact ⟨none, 0, rfl, Nat.le_refl _, ⟨rfl, by simp, fun hp => absurd hp (by simp)⟩, H.out, Only.refl _ _⟩
end Go.Proofs.Ytengdchgfhcdhaa.Reader
