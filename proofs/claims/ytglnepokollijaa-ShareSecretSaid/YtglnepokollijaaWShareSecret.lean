/- It is proved here that the law ShareSecret, called with any secrets, numbers, draws and order, answers true and leaves what was there alone. No condition. -/
import Derived.Test.YtglnepokollijaaWorks4
import Derived.Test.YtglnepokollijaaPVx2
import Derived.Test.YtglnepokollijaaApart4
import Derived.Test.YtglnepokollijaaPureSecret
import Derived.BigQuiet
import Derived.Deep.QuietTactic
import Derived.Deep.RegionHeld3
import Derived.StillTailTactics
namespace Go.Proofs.Ytglnepokollijaa.HShareSecret
set_option linter.unusedVariables false
set_option linter.unusedSimpArgs false
open Go.RowKit Go.Proofs.YtglnepokollijaaW.PrintWords Go.Proofs.YtglnepokollijaaW.PrintLast Go.Proofs.YtglnepokollijaaW.PrintMore
open Gf Gfi Poly Share PureTaken PureSecret

theorem boxed {w w' : World} {o : Obj} (h : Below (w.alloc o).heap.size (w.alloc o) w') : Below w.heap.size w w' := by
  have h1 : Below w.heap.size w (w.alloc o) := (Below.refl w.heap.size w).alloc (Nat.le_refl _) o
  exact h1.trans (h.mono h1.size)
set_option maxRecDepth 100000 in
set_option maxHeartbeats 1000000 in
theorem law_far (A0 A1 A4 A5 : Option Addr) (c0 n0 c1 n1 c4 n4 c5 n5 : Nat) (a2 a3 : Int) (w : World) (h : 40 < n0 ∨ 100 < n5) (hm : n0 ≤ 9223372036854775807) (hm2 : n5 ≤ 9223372036854775807) :
    Calls Try.prog 4 #[.agg #[.slice A0 n0 c0, .slice A1 n1 c1, .int .i64 a2, .int .i64 a3, .slice A4 n4 c4, .slice A5 n5 c5]] w fun e w' => e = .returned (.bool true) ∧ Below w.heap.size w w' := by
  by_cases h1 : 40 < n0
  · go_enter Try.func4, Try.ntmps4
    go_wp2_with fail
    refine (Works4.works _).mono ?_
    rintro e w1 ⟨rfl, hb⟩
    have hb1 : Below w.heap.size w w1 := boxed hb
    go_wp2
    go_ret
    exact ⟨rfl, hb1⟩
  · have h2 : 100 < n5 := h.resolve_left h1
    go_enter Try.func4, Try.ntmps4
    go_wp2_with fail
    refine (Works4.works _).mono ?_
    rintro e w1 ⟨rfl, hb⟩
    have hb1 : Below w.heap.size w w1 := boxed hb
    go_wp2
    go_ret
    exact ⟨rfl, hb1⟩
theorem ints_of {l : List Int} (h : ∀ x ∈ l, 0 ≤ x ∧ x < 256) : ints (l.map toB) = l := by
  unfold ints
  rw [List.map_map]
  have : l.map (ofB ∘ toB) = l.map id := List.map_congr_left (fun x hx => ofB_toB (h x hx).1 (h x hx).2)
  rw [this, List.map_id]
theorem fill_calls (A : Option Addr) (c : Nat) (l : List Int) (hl : ∀ x ∈ l, 0 ≤ x ∧ x < 256) (hc : l.length ≤ c) (m : Nat) (hm : m ≤ 1000) :
    ∃ ds : List B, ds.length = m ∧ ∀ w, Kd.C (Kd.int .u8) w A l.length l → Calls Try.prog 17 #[.slice A l.length c, .int .i64 (m : Int)] w fun e w' => ∃ A' c', e = .returned (.slice A' m c') ∧ m ≤ c' ∧ Row.Is w' w.heap.size (.slice A' m c') (ints ds) ∧ Below w.heap.size w w' := by
  obtain ⟨dr, h1, h2, h3⟩ := filled_l l hl m (Nat.le_trans hm (by decide)) m 0 [] (Nat.zero_add _) rfl (fun x hx => by simp at hx) (m + 1) (Nat.le_refl _)
  refine ⟨dr.map toB, by rw [List.length_map, h2], fun w hr => ?_⟩
  refine (PT.ciboriumlaw04_filled.calls (m + 1) A c l (m : Int) dr w hr hc h1).mono ?_
  rintro e w' ⟨v, rfl, hR, hb⟩
  have hI := Row.of_R hR
  obtain ⟨A', c', rfl, hc', _⟩ := hI.reads
  rw [h2] at hI hc'
  exact ⟨A', c', by rw [h2], hc', by rw [ints_of h3]; exact hI, hb⟩
theorem copy_calls (A : Option Addr) (c : Nat) (l : List Int) (hc : l.length ≤ c) (hm : l.length ≤ 1000) (w : World) (hr : Kd.C (Kd.int .u8) w A l.length l) :
    Calls Try.prog 18 #[.slice A l.length c] w fun e w' => ∃ A' c', e = .returned (.slice A' l.length c') ∧ l.length ≤ c' ∧ Row.Is w' w.heap.size (.slice A' l.length c') l ∧ Below w.heap.size w w' := by
  refine (PA.ciboriumref00_CopyBytes.calls A c l l w hr hc (Apart.copy_f l (by omega))).mono ?_
  rintro e w' ⟨v, rfl, hR, hb⟩
  have hI := Row.of_R hR
  obtain ⟨A', c', rfl, hc', _⟩ := hI.reads
  exact ⟨A', c', rfl, hc', hI, hb⟩
theorem taken_calls (A : Option Addr) (c : Nat) (l : List Int) (hl : l.length ≤ 100) (hc : l.length ≤ c) (n t : Nat) (hn0 : 0 < n) (hn : n ≤ 16) (ht : t ≤ n) :
    ∃ at_ : List Int, Places n at_ ∧ at_.length = t ∧ ∀ w, Kd.C (Kd.int .i64) w A l.length l → Calls Try.prog 19 #[.slice A l.length c, .int .i64 (n : Int), .int .i64 (t : Int)] w fun e w' => ∃ A' c', e = .returned (.slice A' t c') ∧ t ≤ c' ∧ Kd.C (Kd.int .i64) w' A' t at_ ∧ Below w.heap.size w w' := by
  obtain ⟨r, h1, h2, h3⟩ := taken_f l hl n t hn0 hn ht
  refine ⟨r, h2, h3, fun w hr => ?_⟩
  refine (PT.ciboriumlaw04_taken.calls 3000 A c l (n : Int) (t : Int) r w hr hc (h1 3000 (Nat.le_refl _))).mono ?_
  rintro e w' ⟨v, rfl, hR, hb⟩
  obtain ⟨A', c', rfl, hc', hC'⟩ := Kd.R_reads hR
  rw [h3] at hc' hC'
  exact ⟨A', c', by rw [h3], hc', hC', hb⟩
theorem through_calls (A B' : Option Addr) (c d : Nat) (n : Nat) (X Y cs : List B) (K : Nat) (hX : X.length = n) (hY : Y.length = n) (w : World) (b1 b2 : Nat) (h1 : Row.Is w b1 (.slice A n c) (ints X)) (h2 : Row.Is w b2 (.slice B' n d) (ints Y)) (hf : PV.ciboriumlaw04_through.f K (ints X) (ints Y) = some (ints cs)) :
    Calls Try.prog 20 #[.slice A n c, .slice B' n d] w fun e w' => ∃ A' c', e = .returned (.slice A' cs.length c') ∧ cs.length ≤ c' ∧ Row.Is w' w.heap.size (.slice A' cs.length c') (ints cs) ∧ Below w.heap.size w w' := by
  obtain ⟨e1, q1, r1⟩ := h1.reads'
  obtain ⟨e2, q2, r2⟩ := h2.reads'
  have hn1 : (ints X).length = n := by rw [ints_length, hX]
  have hn2 : (ints Y).length = n := by rw [ints_length, hY]
  have h := PV.ciboriumlaw04_through.calls K A c (ints X) B' d (ints Y) (ints cs) w r1 (by omega) r2 (by omega) hf
  rw [hn1, hn2] at h
  refine h.mono ?_
  rintro e w' ⟨v, rfl, hR, hb⟩
  have hI := Row.of_R hR
  obtain ⟨A', c', rfl, hc', _⟩ := hI.reads
  rw [ints_length] at hI hc'
  exact ⟨A', c', by rw [ints_length], hc', hI, hb⟩
theorem split_s (bs ds : List B) (L M : Nat) (hL : bs.length = L) (hM : ds.length = M) (A0 A3 : Option Addr) (c0 c3 n k t : Nat) (hk : k = t + 1) (hkn : k ≤ n) (hn1 : 1 ≤ n) (hn : n ≤ 16) (hL2 : L ≤ 1024) (w : World) (b1 b2 : Nat) (h0 : Row.Is w b1 (.slice A0 L c0) (ints bs)) (h3 : Row.Is w b2 (.slice A3 M c3) (ints ds)) (hM2 : M = t * L := by rfl) :
    Calls Try.prog 10 #[.slice A0 L c0, .int .i64 (n : Int), .int .i64 (k : Int), .slice A3 M c3] w fun e w' => ∃ (g c : Nat) (b : Nat → Nat), e = .returned (.tuple #[.slice (some ⟨g, 0, none⟩) n c, .int .i64 0]) ∧ n ≤ c ∧ IsS w' w.heap.size (.slice (some ⟨g, 0, none⟩) n c) n b L ∧ (∀ q, q < n → Row.Is w' w.heap.size (sl b L q) (yr bs ds (t + 1) (xB q) L)) ∧ Below w.heap.size w w' := by
  obtain ⟨e1, q1, r1⟩ := h0.reads'
  obtain ⟨e2, q2, r2⟩ := h3.reads'
  rw [ints_length] at e1 r1 e2 r2
  have h := Share.split_calls bs ds A0 A3 c0 c3 n k w r1 (by omega) r2 (by omega) (by omega) hkn hn (by omega) (by rw [hM, hL, hk, Nat.add_sub_cancel]; exact hM2)
  rw [hL, hM] at h
  refine h.mono ?_
  rintro e w' ⟨v, b, rfl, hS, hY, hO, hB⟩
  obtain ⟨A, c, rfl, hc, hA⟩ := hS.form
  obtain ⟨g, rfl⟩ := hA (by omega)
  rw [hk] at hY
  exact ⟨g, c, b, rfl, hc, hS, hY, hB⟩
/-- Six fields in memory. -/
structure Bx (W : World) (g : Nat) (x0 x1 x2 x3 x4 x5 : Value) : Prop where
  f0 : W.cell? ⟨g, 0, none⟩ = some x0
  f1 : W.cell? ⟨g, 1, none⟩ = some x1
  f2 : W.cell? ⟨g, 2, none⟩ = some x2
  f3 : W.cell? ⟨g, 3, none⟩ = some x3
  f4 : W.cell? ⟨g, 4, none⟩ = some x4
  f5 : W.cell? ⟨g, 5, none⟩ = some x5
theorem Bx.below {W W' : World} {g : Nat} {x0 x1 x2 x3 x4 x5 : Value} (h : Bx W g x0 x1 x2 x3 x4 x5) (hb : Below W.heap.size W W') : Bx W' g x0 x1 x2 x3 x4 x5 :=
  ⟨(hb.cell (World.block_lt_of_cell? _ _ h.f0)).trans h.f0, (hb.cell (World.block_lt_of_cell? _ _ h.f1)).trans h.f1, (hb.cell (World.block_lt_of_cell? _ _ h.f2)).trans h.f2, (hb.cell (World.block_lt_of_cell? _ _ h.f3)).trans h.f3, (hb.cell (World.block_lt_of_cell? _ _ h.f4)).trans h.f4, (hb.cell (World.block_lt_of_cell? _ _ h.f5)).trans h.f5⟩
theorem Bx.new (W : World) (t : TypeId) (x0 x1 x2 x3 x4 x5 : Value) : Bx (W.alloc (.cells #[x0, x1, x2, x3, x4, x5] t)) W.heap.size x0 x1 x2 x3 x4 x5 :=
  ⟨Blk.Is.cell (Blk.Is.new W _ t) 0, Blk.Is.cell (Blk.Is.new W _ t) 1, Blk.Is.cell (Blk.Is.new W _ t) 2, Blk.Is.cell (Blk.Is.new W _ t) 3, Blk.Is.cell (Blk.Is.new W _ t) 4, Blk.Is.cell (Blk.Is.new W _ t) 5⟩
/-- What stands ahead of the shares. -/
structure S0 (w W : World) (A0 A1 A4 A5 : Option Addr) (l0 l1 l4 l5 : List Int) (x0 x1 x2 x3 x4 x5 : Value) : Prop where
  p0 : Kd.C (Kd.int .u8) W A0 l0.length l0
  p1 : Kd.C (Kd.int .u8) W A1 l1.length l1
  p4 : Kd.C (Kd.int .u8) W A4 l4.length l4
  p5 : Kd.C (Kd.int .i64) W A5 l5.length l5
  box : Bx W w.heap.size x0 x1 x2 x3 x4 x5
  below : Below w.heap.size w W
theorem S0.step {w W W' : World} {A0 A1 A4 A5 : Option Addr} {l0 l1 l4 l5 : List Int} {x0 x1 x2 x3 x4 x5 : Value} (h : S0 w W A0 A1 A4 A5 l0 l1 l4 l5 x0 x1 x2 x3 x4 x5) (hb : Below W.heap.size W W') : S0 w W' A0 A1 A4 A5 l0 l1 l4 l5 x0 x1 x2 x3 x4 x5 :=
  ⟨Kd.C_below h.p0 hb, Kd.C_below h.p1 hb, Kd.C_below h.p4 hb, Kd.C_below h.p5 hb, h.box.below hb, h.below.trans (hb.mono h.below.size)⟩
/-- What stands behind them. -/
structure S1 (w W : World) (H5 H6 : Nat) (A5 A8 : Option Addr) (c5 g6 c6 L n t : Nat) (b6 : Nat → Nat) (bs ds os : List B) (at_ : List Int) : Prop where
  r5 : Row.Is W H5 (.slice A5 L c5) (ints os)
  s6 : IsS W H6 (.slice (some ⟨g6, 0, none⟩) n c6) n b6 L
  y6 : ∀ q, q < n → Row.Is W H6 (sl b6 L q) (yr bs ds (t + 1) (xB q) L)
  c8 : Kd.C (Kd.int .i64) W A8 t at_
  below : Below w.heap.size w W
theorem S1.step {w W W' : World} {H5 H6 : Nat} {A5 A8 : Option Addr} {c5 g6 c6 L n t : Nat} {b6 : Nat → Nat} {bs ds os : List B} {at_ : List Int} (h : S1 w W H5 H6 A5 A8 c5 g6 c6 L n t b6 bs ds os at_) (hb : Below W.heap.size W W') : S1 w W' H5 H6 A5 A8 c5 g6 c6 L n t b6 bs ds os at_ :=
  ⟨h.r5.below hb, h.s6.below hb, fun q hq => (h.y6 q hq).below hb, Kd.C_below h.c8 hb, h.below.trans (hb.mono h.below.size)⟩

theorem lit1 (W : World) (base : Nat) (hb : base ≤ W.heap.size) (x : Int) : Row.Is (W.alloc (.cells #[.int .u8 x] 5)) base (.slice (some ⟨W.heap.size, 0, none⟩) 1 1) [x] :=
  ⟨rfl, .inr ⟨W.heap.size, 1, #[.int .u8 x], rfl, hb, heap_alloc_new W _, Nat.le_refl _, by decide, rfl, rfl⟩⟩
/-- Two rows that grow side by side. -/
structure XY (W : World) (H : Nat) (v u : Value) (X Y : List Int) : Prop where
  x : Row.Is W H v X
  y : Row.Is W H u Y
  un : ∀ k, v.ownBlock = some k → u.ownBlock ≠ some k
theorem XY.drewN {W : World} {H : Nat} {v u : Value} {X Y : List Int} (h : XY W H v u X Y) (n : Nat) : XY (W.drewN n) H v u X Y := ⟨h.x.drewN n, h.y.drewN n, h.un⟩
theorem XY.addx {W w1 : World} {H : Nat} {v v1 u : Value} {X X1 Y : List Int} (h : XY W H v u X Y) (q1 : Row.Is w1 H v1 X1) (q3 : W.grownBy w1 v.ownBlock) (q4 : v1.ownBlock = v.ownBlock ∨ ∃ b, v1.ownBlock = some b ∧ W.heap.size ≤ b) : XY w1 H v1 u X1 Y :=
  ⟨q1, h.y.grown q3 (fun k hk e => h.un k e.symm hk), fun k hk hk2 => by
    rcases q4 with e | ⟨b, e, hb⟩
    · exact h.un k (by rw [← e]; exact hk) hk2
    · rw [e] at hk
      injection hk with hk
      have := (h.y.lt k hk2).2
      omega⟩
theorem XY.addy {W w1 : World} {H : Nat} {v u u1 : Value} {X Y Y1 : List Int} (h : XY W H v u X Y) (q1 : Row.Is w1 H u1 Y1) (q3 : W.grownBy w1 u.ownBlock) (q4 : u1.ownBlock = u.ownBlock ∨ ∃ b, u1.ownBlock = some b ∧ W.heap.size ≤ b) : XY w1 H v u1 X Y1 :=
  ⟨h.x.grown q3 (fun k hk e => h.un k hk e.symm), q1, fun k hk hk2 => by
    rcases q4 with e | ⟨b, e, hb⟩
    · exact h.un k hk (by rw [← e]; exact hk2)
    · rw [e] at hk2
      injection hk2 with hk2
      have := (h.x.lt k hk).2
      omega⟩

set_option maxRecDepth 100000 in
set_option maxHeartbeats 8000000 in
theorem law (A0 A1 A4 A5 : Option Addr) (c0 c1 c4 c5 : Nat) (l0 l1 l4 l5 : List Int) (a2 a3 : Int) (w : World) (hr0 : Kd.C (Kd.int .u8) w A0 l0.length l0) (hc0 : l0.length ≤ c0) (hr1 : Kd.C (Kd.int .u8) w A1 l1.length l1) (hc1 : l1.length ≤ c1) (hr4 : Kd.C (Kd.int .u8) w A4 l4.length l4) (hc4 : l4.length ≤ c4) (hr5 : Kd.C (Kd.int .i64) w A5 l5.length l5) (hc5 : l5.length ≤ c5)
    (hw0 : ∀ x ∈ l0, 0 ≤ x ∧ x < 256) (hw1 : ∀ x ∈ l1, 0 ≤ x ∧ x < 256) (hw4 : ∀ x ∈ l4, 0 ≤ x ∧ x < 256) (hm0 : l0.length ≤ 9223372036854775807) (hm5 : l5.length ≤ 9223372036854775807) :
    Calls Try.prog 4 #[.agg #[.slice A0 l0.length c0, .slice A1 l1.length c1, .int .i64 a2, .int .i64 a3, .slice A4 l4.length c4, .slice A5 l5.length c5]] w fun e w' => e = .returned (.bool true) ∧ Below w.heap.size w w' := by
  by_cases hfar : 40 < l0.length ∨ 100 < l5.length
  · exact law_far A0 A1 A4 A5 c0 l0.length c1 l1.length c4 l4.length c5 l5.length a2 a3 w hfar hm0 hm5
  · have hyl : l0.length ≤ 40 := by omega
    have hy5 : l5.length ≤ 100 := by omega
    obtain ⟨n, hn⟩ : ∃ n : Nat, (n : Int) = 1 + a2 % 16 := ⟨(1 + a2 % 16).toNat, by omega⟩
    have hn1 : 1 ≤ n ∧ n ≤ 16 := by omega
    have hk0 := Int.emod_nonneg a3 (show (n : Int) ≠ 0 by omega)
    have hk1 := Int.emod_lt_of_pos a3 (show (0 : Int) < (n : Int) by omega)
    obtain ⟨kk, hkk⟩ : ∃ kk : Nat, (kk : Int) = 1 + a3 % (n : Int) := ⟨(1 + a3 % (n : Int)).toNat, by omega⟩
    obtain ⟨t, ht⟩ : ∃ t, kk = t + 1 := ⟨kk - 1, by omega⟩
    have hkn : kk ≤ n := by omega
    have hm16 : PT.ciboriumlaw04_mod.f a2 16 = some ((n : Int) - 1) := by rw [mod_f a2 16 (by decide) (by decide)]; congr 1; omega
    have hmn : PT.ciboriumlaw04_mod.f a3 (n : Int) = some ((kk : Int) - 1) := by rw [mod_f a3 (n : Int) (by omega) (by omega)]; congr 1; omega
    have hb : t * l0.length ≤ 15 * 40 := Nat.mul_le_mul (by omega) hyl
    obtain ⟨os, hos, hfo⟩ := fill_calls A1 c1 l1 hw1 hc1 l0.length (by omega)
    obtain ⟨ds, hds, hfd⟩ := fill_calls A4 c4 l4 hw4 hc4 (t * l0.length) (by omega)
    obtain ⟨at_, hp, hat, hft⟩ := taken_calls A5 c5 l5 hy5 hc5 n t (by omega) hn1.2 (by omega)
    have hbs := ints_of hw0
    have hbl : (l0.map toB).length = l0.length := List.length_map _
    generalize l0.map toB = bs at hbs hbl
    have M16 := Lib.hid hm16
    have MN := Lib.hid hmn
    have FO := Lib.hid hfo
    have FD := Lib.hid hfd
    have FT := Lib.hid hft
    have HP := Lib.hid hp
    have HBS := Lib.hid hbs
    have HBL := Lib.hid hbl
    have HOS := Lib.hid hos
    have HDS := Lib.hid hds
    have HAT := Lib.hid hat
    have HT := Lib.hid ht
    have HR := Lib.hid (And.intro hr0 (And.intro hr1 (And.intro hr4 hr5)))
    have w1f : IntKind.i64.wrap (1 + ((n : Int) - 1)) = (n : Int) := by rw [show 1 + ((n : Int) - 1) = (n : Int) by omega]; exact IntWalk.i64_in _ (by omega)
    have w2f : IntKind.i64.wrap (1 + ((kk : Int) - 1)) = (kk : Int) := by rw [show 1 + ((kk : Int) - 1) = (kk : Int) by omega]; exact IntWalk.i64_in _ (by omega)
    have w3f : IntKind.i64.wrap ((kk : Int) - 1) = (t : Int) := by rw [show (kk : Int) - 1 = (t : Int) by omega]; exact IntWalk.i64_in _ (by omega)
    have w4f : IntKind.i64.wrap ((t : Int) * (l0.length : Int)) = ((t * l0.length : Nat) : Int) := by rw [← Int.natCast_mul]; exact IntWalk.i64_in _ (by omega)
    have hn1a := hn1.1
    have hn1b := hn1.2
    have ht16 : t ≤ 16 := by omega
    clear hfar hm0 hm5 hn hk0 hk1 hkk hm16 hmn hb hfo hfd hft hp hbs hbl hos hds hat hr0 hr1 hr4 hr5 hw0 hw1 hw4 hn1 ht
    go_enter Try.func4, Try.ntmps4
    have HB0 : Hid (Below w.heap.size w (w.alloc (.cells #[.slice A0 l0.length c0, .slice A1 l1.length c1, .int .i64 a2, .int .i64 a3, .slice A4 l4.length c4, .slice A5 l5.length c5] 39))) := (Below.refl w.heap.size w).alloc (Nat.le_refl _) _
    have HX0 := Lib.hid (Bx.new w 39 (.slice A0 l0.length c0) (.slice A1 l1.length c1) (.int .i64 a2) (.int .i64 a3) (.slice A4 l4.length c4) (.slice A5 l5.length c5))
    go_wp2_with fail
    obtain ⟨W0, hW0⟩ : ∃ W0, W0 = w.alloc (.cells #[.slice A0 l0.length c0, .slice A1 l1.length c1, .int .i64 a2, .int .i64 a3, .slice A4 l4.length c4, .slice A5 l5.length c5] 39) := ⟨_, rfl⟩
    rw [← hW0] at HX0 HB0 ⊢
    clear hW0
    have HS0 : Hid (S0 w W0 A0 A1 A4 A5 l0 l1 l4 l5 (.slice A0 l0.length c0) (.slice A1 l1.length c1) (.int .i64 a2) (.int .i64 a3) (.slice A4 l4.length c4) (.slice A5 l5.length c5)) := ⟨Kd.C_below HR.out.1 HB0.out, Kd.C_below HR.out.2.1 HB0.out, Kd.C_below HR.out.2.2.1 HB0.out, Kd.C_below HR.out.2.2.2 HB0.out, HX0.out, HB0.out⟩
    clear HX0 HB0 HR
    refine (PT.ciboriumlaw04_mod.calls a2 16 ((n : Int) - 1) _ M16.out).mono ?_
    rintro e w1 ⟨rfl, n1, rfl⟩
    have HS1 := Lib.hid (HS0.out.step (pw_below_drewN (Below.refl W0.heap.size W0) n1))
    clear HS0 M16
    generalize W0.drewN n1 = w1 at *
    have b3 := HS1.out.box.f3
    go_wp2_with fail
    refine (PT.ciboriumlaw04_mod.calls a3 (n : Int) ((kk : Int) - 1) _ MN.out).mono ?_
    rintro e w2 ⟨rfl, n2, rfl⟩
    have HS2 := Lib.hid (HS1.out.step (pw_below_drewN (Below.refl w1.heap.size w1) n2))
    clear HS1 MN b3
    generalize w1.drewN n2 = w2 at *
    have b0 := HS2.out.box.f0
    have b1 := HS2.out.box.f1
    go_wp2_with fail
    refine (FO.out _ HS2.out.p1).mono ?_
    rintro e w3 ⟨A6, c6, rfl, hc6, hI, hbl3⟩
    have HOR := Lib.hid hI
    have HS3 := Lib.hid (HS2.out.step hbl3)
    have H5sz : Hid (w2.heap.size ≤ w3.heap.size) := hbl3.size
    clear hI hbl3 HS2 b0 b1 FO
    have b0 := HS3.out.box.f0
    have b4 := HS3.out.box.f4
    go_wp2_with fail
    -- region 6
    refine start_ (n := 20) (S := fun w' => w'.cell? ⟨w.heap.size, 0, none⟩ = some (.slice A0 l0.length c0) ∧ w'.cell? ⟨w.heap.size, 4, none⟩ = some (.slice A4 l4.length c4)) (ds := []) #[false, false, false, false, false, false, false, false, false, false, false, false, false, false, false, false, false, false, false, false] (by kernel_rfl) rfl rfl ⟨((HS3.out.step (pw_below_drewN (Below.refl w3.heap.size w3) 1)).box.f0), ((HS3.out.step (pw_below_drewN (Below.refl w3.heap.size w3) 1)).box.f4)⟩ (fun hHeld => ?_)
    have HS4 := Lib.hid (HS3.out.step (pw_below_drewN (Below.refl w3.heap.size w3) 1))
    have HOR4 := Lib.hid (HOR.out.drewN 1)
    clear HS3 HOR b0 b4
    change Hid (S0 w w3.drew _ _ _ _ _ _ _ _ _ _ _ _ _ _) at HS4
    change Hid (Row.Is w3.drew _ _ _) at HOR4
    generalize w3.drew = w4 at *
    refine pure_ (i := 0) (N := some 45) (v := ?_) (a' := ?_) #[true, false, false, false, false, false, false, false, false, false, false, false, false, false, false, false, false, false, false, false] rfl rfl (by kernel_rfl) (fun _ _ _ h => h) (Or.inl ⟨by rfl, ?_⟩) ?_ ?_
    rotate_left
    · intro w'
      go_simp
      with_reducible rfl
    rotate_left
    · simp only [Act.put, List.setIfInBounds_toArray, List.set_cons_zero, List.set_cons_succ, i64_w, i32_w]
      rfl
    refine pure_ (i := 3) (N := some 48) (v := ?_) (a' := ?_) #[true, false, false, true, false, false, false, false, false, false, false, false, false, false, false, false, false, false, false, false] rfl rfl (by kernel_rfl) (fun _ _ _ h => h) (Or.inl ⟨by rfl, ?_⟩) ?_ ?_
    rotate_left
    · intro w'
      go_simp
      with_reducible rfl
    rotate_left
    · simp only [Act.put, List.setIfInBounds_toArray, List.set_cons_zero, List.set_cons_succ, i64_w, i32_w]
      rfl
    refine pure_ (i := 4) (N := some 49) (v := ?_) (a' := ?_) #[true, false, false, true, true, false, false, false, false, false, false, false, false, false, false, false, false, false, false, false] rfl rfl (by kernel_rfl) (fun _ _ _ h => h) (Or.inl ⟨by rfl, ?_⟩) ?_ ?_
    rotate_left
    · intro w'
      go_simp
      with_reducible rfl
    rotate_left
    · simp only [Act.put, List.setIfInBounds_toArray, List.set_cons_zero, List.set_cons_succ, i64_w, i32_w]
      rfl
    refine pure_ (i := 5) (N := some 50) (v := ?_) (a' := ?_) #[true, false, false, true, true, true, false, false, false, false, false, false, false, false, false, false, false, false, false, false] rfl rfl (by kernel_rfl) (fun _ _ _ h => h) (Or.inl ⟨by rfl, ?_⟩) ?_ ?_
    rotate_left
    · intro w'
      go_simp
      with_reducible rfl
    rotate_left
    · simp only [Act.put, List.setIfInBounds_toArray, List.set_cons_zero, List.set_cons_succ, i64_w, i32_w]
      rfl
    refine pure_ (i := 7) (N := some 52) (v := ?_) (a' := ?_) #[true, false, false, true, true, true, false, true, false, false, false, false, false, false, false, false, false, false, false, false] rfl rfl (by kernel_rfl) (fun _ _ _ h => h) (Or.inl ⟨by rfl, ?_⟩) ?_ ?_
    rotate_left
    · intro w'
      go_simp
      with_reducible rfl
    rotate_left
    · simp only [Act.put, List.setIfInBounds_toArray, List.set_cons_zero, List.set_cons_succ, i64_w, i32_w]
      rfl
    refine pure_ (i := 8) (N := some 53) (v := ?_) (a' := ?_) #[true, false, false, true, true, true, false, true, true, false, false, false, false, false, false, false, false, false, false, false] rfl rfl (by kernel_rfl) (fun _ _ _ h => h) (Or.inl ⟨by rfl, ?_⟩) ?_ ?_
    rotate_left
    · intro w'
      go_simp
      with_reducible rfl
    rotate_left
    · simp only [Act.put, List.setIfInBounds_toArray, List.set_cons_zero, List.set_cons_succ, i64_w, i32_w]
      rfl
    refine pure_ (i := 9) (N := some 54) (v := ?_) (a' := ?_) #[true, false, false, true, true, true, false, true, true, true, false, false, false, false, false, false, false, false, false, false] rfl rfl (by kernel_rfl) (fun _ _ _ h => h) (Or.inl ⟨by rfl, ?_⟩) ?_ ?_
    rotate_left
    · intro w'
      go_simp
      with_reducible rfl
    rotate_left
    · simp only [Act.put, List.setIfInBounds_toArray, List.set_cons_zero, List.set_cons_succ, i64_w, i32_w]
      rfl
    refine take_ (i := 1) (N := some 46) (v := ?_) (a' := ?_) #[true, true, false, true, true, true, false, true, true, true, false, false, false, false, false, false, false, false, false, false] rfl rfl (by kernel_rfl) (fun _ _ _ h => h) (Or.inl ⟨by rfl, ?_⟩) hHeld ?_ ?_
    rotate_left
    · rintro w' ⟨s0, s1⟩
      go_simp
      with_reducible rfl
    rotate_left
    · simp only [Act.put, List.setIfInBounds_toArray, List.set_cons_zero, List.set_cons_succ, i64_w, i32_w]
      rfl
    refine take_ (i := 6) (N := some 51) (v := ?_) (a' := ?_) #[true, true, false, true, true, true, true, true, true, true, false, false, false, false, false, false, false, false, false, false] rfl rfl (by kernel_rfl) (fun _ _ _ h => h) (Or.inl ⟨by rfl, ?_⟩) hHeld ?_ ?_
    rotate_left
    · rintro w' ⟨s0, s1⟩
      go_simp
      with_reducible rfl
    rotate_left
    · simp only [Act.put, List.setIfInBounds_toArray, List.set_cons_zero, List.set_cons_succ, i64_w, i32_w]
      rfl
    refine take_ (i := 10) (N := some 55) (v := ?_) (a' := ?_) #[true, true, false, true, true, true, true, true, true, true, true, false, false, false, false, false, false, false, false, false] rfl rfl (by kernel_rfl) (fun _ _ _ h => h) (Or.inl ⟨by rfl, ?_⟩) hHeld ?_ ?_
    rotate_left
    · rintro w' ⟨s0, s1⟩
      go_simp
      with_reducible rfl
    rotate_left
    · simp only [Act.put, List.setIfInBounds_toArray, List.set_cons_zero, List.set_cons_succ, i64_w, i32_w]
      rfl
    refine pure_ (i := 11) (N := some 56) (v := ?_) (a' := ?_) #[true, true, false, true, true, true, true, true, true, true, true, true, false, false, false, false, false, false, false, false] rfl rfl (by kernel_rfl) (fun _ _ _ h => h) (Or.inl ⟨by rfl, ?_⟩) ?_ ?_
    rotate_left
    · intro w'
      go_simp
      with_reducible rfl
    rotate_left
    · simp only [Act.put, List.setIfInBounds_toArray, List.set_cons_zero, List.set_cons_succ, i64_w, i32_w]
      rfl
    refine pure_ (i := 12) (N := some 57) (v := ?_) (a' := ?_) #[true, true, false, true, true, true, true, true, true, true, true, true, true, false, false, false, false, false, false, false] rfl rfl (by kernel_rfl) (fun _ _ _ h => h) (Or.inl ⟨by rfl, ?_⟩) ?_ ?_
    rotate_left
    · intro w'
      go_simp
      with_reducible rfl
    rotate_left
    · simp only [Act.put, List.setIfInBounds_toArray, List.set_cons_zero, List.set_cons_succ, i64_w, i32_w]
      rfl
    refine one_ (i := 2) (N := some 47) #[true, true, true, true, true, true, true, true, true, true, true, true, true, false, false, false, false, false, false, false] rfl rfl (by kernel_rfl) (by decide) (fun K hK => ?_)
    refine goes_ Try.func18 (by kernel_rfl) rfl #[.slice A0 l0.length c0] (by rfl) rfl rfl (by simp only [List.map_toArray, List.map_cons, List.map_nil]; rfl) ?_
    with_reducible refine (copy_calls A0 c0 l0 hc0 (by omega) w4 HS4.out.p0).mono ?_
    rintro e w5 ⟨A7, c7, rfl, hc7, hI, hb⟩
    refine ⟨_, rfl, ?_⟩
    have HCR := Lib.hid hI
    have HS5 := Lib.hid (HS4.out.step hb)
    have HOR5 := Lib.hid (HOR4.out.below hb)
    clear HS4 HOR4 hI hb
    refine hK.out _ _ ⟨(HS5.out.box.f0), (HS5.out.box.f4)⟩ (fun hHeld => ?_)
    clear hK K
    refine norm_ (a' := ?_) ?_ ?_
    rotate_left
    · show Act.put _ (some 47) _ = _
      simp only [Act.put, List.setIfInBounds_toArray, List.set_cons_zero, List.set_cons_succ, i64_w, i32_w]
      rfl
    refine one_ (i := 13) (N := some 58) #[true, true, true, true, true, true, true, true, true, true, true, true, true, true, false, false, false, false, false, false] rfl rfl (by kernel_rfl) (by decide) (fun K hK => ?_)
    refine goes_ Try.func17 (by kernel_rfl) rfl #[.slice A4 l4.length c4, .int .i64 ((t * l0.length : Nat) : Int)] (by rfl) rfl rfl (by simp only [List.map_toArray, List.map_cons, List.map_nil]; rfl) ?_
    with_reducible refine (FD.out w5 HS5.out.p4).mono ?_
    rintro e w6 ⟨A9, c9, rfl, hc9, hI, hb⟩
    refine ⟨_, rfl, ?_⟩
    have HDR := Lib.hid hI
    have HS6 := Lib.hid (HS5.out.step hb)
    have HOR6 := Lib.hid (HOR5.out.below hb)
    have HCR6 := Lib.hid (HCR.out.below hb)
    clear HS5 HOR5 HCR hI hb FD
    refine hK.out _ _ ⟨(HS6.out.box.f0), (HS6.out.box.f4)⟩ (fun hHeld => ?_)
    clear hK K
    refine norm_ (a' := ?_) ?_ ?_
    rotate_left
    · show Act.put _ (some 58) _ = _
      simp only [Act.put, List.setIfInBounds_toArray, List.set_cons_zero, List.set_cons_succ, i64_w, i32_w]
      rfl
    refine one_ (i := 14) (N := some 59) #[true, true, true, true, true, true, true, true, true, true, true, true, true, true, true, false, false, false, false, false] rfl rfl (by kernel_rfl) (by decide) (fun K hK => ?_)
    refine goes_ Try.func10 (by kernel_rfl) rfl #[.slice A7 l0.length c7, .int .i64 (n : Int), .int .i64 (kk : Int), .slice A9 (t * l0.length) c9] (by rfl) rfl rfl (by simp only [List.map_toArray, List.map_cons, List.map_nil]; rfl) ?_
    with_reducible refine (split_s bs ds l0.length (t * l0.length) HBL.out HDS.out A7 A9 c7 c9 n kk t HT.out hkn hn1a hn1b (by omega) w6 _ _ (by rw [HBS.out]; exact HCR6.out) HDR.out).mono ?_
    rintro e w7 ⟨g6, c60, b6, rfl, hc60, hS6, hY6, hb⟩
    refine ⟨_, rfl, ?_⟩
    have HV6 := Lib.hid hS6
    have HY6 := Lib.hid hY6
    have HS7 := Lib.hid (HS6.out.step hb)
    have HOR7 := Lib.hid (HOR6.out.below hb)
    clear HS6 HOR6 HCR6 HDR hS6 hY6 hb
    refine hK.out _ _ ⟨(HS7.out.box.f0), (HS7.out.box.f4)⟩ (fun hHeld => ?_)
    clear hK K
    refine norm_ (a' := ?_) ?_ ?_
    rotate_left
    · show Act.put _ (some 59) _ = _
      simp only [Act.put, List.setIfInBounds_toArray, List.set_cons_zero, List.set_cons_succ, i64_w, i32_w]
      rfl
    refine pure_ (i := 15) (N := some 44) (v := ?_) (a' := ?_) #[true, true, true, true, true, true, true, true, true, true, true, true, true, true, true, true, false, false, false, false] rfl rfl (by kernel_rfl) (fun _ _ _ h => h) (Or.inl ⟨by rfl, ?_⟩) ?_ ?_
    rotate_left
    · intro w'
      go_simp
      with_reducible rfl
    rotate_left
    · simp only [Act.put, List.setIfInBounds_toArray, List.set_cons_zero, List.set_cons_succ, i64_w, i32_w]
      rfl
    refine pure_ (i := 16) (N := some 60) (v := ?_) (a' := ?_) #[true, true, true, true, true, true, true, true, true, true, true, true, true, true, true, true, true, false, false, false] rfl rfl (by kernel_rfl) (fun _ _ _ h => h) (Or.inl ⟨by rfl, ?_⟩) ?_ ?_
    rotate_left
    · intro w'
      go_simp
      with_reducible rfl
    rotate_left
    · simp only [Act.put, List.setIfInBounds_toArray, List.set_cons_zero, List.set_cons_succ, i64_w, i32_w]
      rfl
    refine pure_ (i := 17) (N := some 61) (v := ?_) (a' := ?_) #[true, true, true, true, true, true, true, true, true, true, true, true, true, true, true, true, true, true, false, false] rfl rfl (by kernel_rfl) (fun _ _ _ h => h) (Or.inl ⟨by rfl, ?_⟩) ?_ ?_
    rotate_left
    · intro w'
      go_simp
      with_reducible rfl
    rotate_left
    · simp only [Act.put, List.setIfInBounds_toArray, List.set_cons_zero, List.set_cons_succ, i64_w, i32_w]
      rfl
    refine pure_ (i := 18) (N := some 6) (v := ?_) (a' := ?_) #[true, true, true, true, true, true, true, true, true, true, true, true, true, true, true, true, true, true, true, false] rfl rfl (by kernel_rfl) (fun _ _ _ h => h) (Or.inl ⟨by rfl, ?_⟩) ?_ ?_
    rotate_left
    · intro w'
      go_simp
      with_reducible rfl
    rotate_left
    · simp only [Act.put, List.setIfInBounds_toArray, List.set_cons_zero, List.set_cons_succ, i64_w, i32_w]
      rfl
    refine pure_ (i := 19) (N := some 7) (v := ?_) (a' := ?_) #[true, true, true, true, true, true, true, true, true, true, true, true, true, true, true, true, true, true, true, true] rfl rfl (by kernel_rfl) (fun _ _ _ h => h) (Or.inl ⟨by rfl, ?_⟩) ?_ ?_
    rotate_left
    · intro w'
      go_simp
      with_reducible rfl
    rotate_left
    · simp only [Act.put, List.setIfInBounds_toArray, List.set_cons_zero, List.set_cons_succ, i64_w, i32_w]
      rfl
    refine done_ (by kernel_rfl) ?_
    -- behind it 6
    have b5 := HS7.out.box.f5
    go_wp2_with fail
    refine (FT.out _ HS7.out.p5).mono ?_
    rintro e w8 ⟨A8, c8, rfl, hc8, hC8, hb⟩
    have HS8 : Hid (S1 w w8 w2.heap.size w6.heap.size A6 A8 c6 g6 c60 l0.length n t b6 bs ds os at_) := ⟨HOR7.out.below hb, HV6.out.below hb, fun q hq => (HY6.out q hq).below hb, hC8, HS7.out.below.trans (hb.mono HS7.out.below.size)⟩
    have HMAD : Hid (Made bs ds os [] t at_ 0) := ⟨by simp, fun p _ i hi => absurd hi (Nat.not_lt_zero i)⟩
    clear hb hC8 HS7 HOR7 HV6 HY6 b5 FT HDS HBS H5sz
    generalize w2.heap.size = H5 at *
    generalize w6.heap.size = H6 at *
    generalize l0.length = L at *
    go_wp2_with fail
    go_loopw [9, 10, 11, 12, 13, 14] (fun v9 v10 v11 v12 v13 v14 wr => ∃ (j : Nat) (D : List B), j ≤ L ∧ v10 = .int .i64 (j : Int) ∧ Hid (Row.Is wr w8.heap.size v9 (ints D)) ∧ Hid (Made bs ds os D t at_ j) ∧ Hid (Below w8.heap.size w8 wr)) (fun _ v10 _ _ _ _ _ => L - (intOf v10).toNat)
    case atStart => exact ⟨0, [], by omega, rfl, Row.Is.nil _ _, HMAD, Below.refl _ _⟩
    case round =>
      clear HMAD
      obtain ⟨j, D, hj, rfl, HV9, HM, HB⟩ := hrel
      by_cases hlt : j < L
      · have HS := Lib.hid (HS8.out.step HB.out)
        obtain ⟨g5, rfl, _⟩ := HS8.out.r5.head (by rw [ints_length, HOS.out]; omega)
        have hx5 : (wr.alloc (.cells #[.int .u8 0] 5)).cell? ⟨g5, j, none⟩ = some (.int .u8 (ofB (os.getD j 0#8))) := by
          have h := ((HS.out.r5.alloc (.cells #[.int .u8 0] 5)).cell j (by rw [ints_length, HOS.out]; exact hlt)).1
          rwa [ints_getD] at h
        obtain ⟨Hj, hHj⟩ : ∃ Hj, Hj = wr.heap.size := ⟨_, rfl⟩
        have hl1 := lit1 wr Hj (by omega) 0
        have e1 : (wr.alloc (.cells #[.int .u8 0] 5)).heap.size = wr.heap.size + 1 := by simp
        have hl2 := lit1 (wr.alloc (.cells #[.int .u8 0] 5)) Hj (by omega) (ofB (os.getD j 0#8))
        rw [e1] at hl2
        have HXY0 : Hid (XY ((wr.alloc (.cells #[.int .u8 0] 5)).alloc (.cells #[.int .u8 (ofB (os.getD j 0#8))] 5)) Hj (.slice (some ⟨wr.heap.size, 0, none⟩) 1 1) (.slice (some ⟨wr.heap.size + 1, 0, none⟩) 1 1) (ints (Xp (at_.take 0))) (ints (Yp bs ds os t j (at_.take 0)))) :=
          ⟨hl1.alloc _, hl2, fun k h1 h2 => by
            have h1 : some wr.heap.size = some k := h1
            have h2 : some (wr.heap.size + 1) = some k := h2
            rw [← h1] at h2
            injection h2 with h2
            omega⟩
        have HB2 : Hid (Below Hj wr ((wr.alloc (.cells #[.int .u8 0] 5)).alloc (.cells #[.int .u8 (ofB (os.getD j 0#8))] 5))) := ((Below.refl Hj wr).alloc (by omega) _).alloc (by omega) _
        have HHj := Lib.hid hHj
        clear hl1 hl2 e1 hHj
        go_wp2_with fail
        clear hx5
        obtain ⟨wo, rfl⟩ : ∃ wo, wo = wr := ⟨_, rfl⟩
        go_loopw [11, 12, 13] (fun v11 v12 v13 wl => ∃ (i : Nat), i ≤ t ∧ v13 = .int .i64 (i : Int) ∧ Hid (XY wl Hj v11 v12 (ints (Xp (at_.take i))) (ints (Yp bs ds os t j (at_.take i)))) ∧ Hid (Below Hj wo wl)) (fun _ _ v13 _ => t - (intOf v13).toNat)
        case atStart => exact ⟨0, by omega, rfl, HXY0, HB2⟩
        case round =>
          clear HXY0 HB2
          obtain ⟨i, hi, rfl, HXY, HBl⟩ := hrel
          have hjw : Hid (∀ W, Below Hj wo W → S1 w W H5 H6 (some ⟨g5, 0, none⟩) A8 c6 g6 c60 L n t b6 bs ds os at_) := fun W h => HS.out.step (by rw [← HHj.out]; exact h)
          by_cases hil : i < t
          · have hia : i < at_.length := by rw [HAT.out]; exact hil
            have hrg := HP.out.rg _ (List.getElem_mem hia)
            obtain ⟨q, hq⟩ : ∃ q : Nat, at_[i] = (q : Int) := ⟨at_[i].toNat, by omega⟩
            have hqn : q < n := by omega
            have hrd : rd at_ (i : Int) = (q : Int) := by rw [rd_at at_ i hia, hq]
            obtain ⟨ad8, rfl, _⟩ := Kd.at_int HS8.out.c8 (i : Int) (by omega) (by omega)
            have HCL : Hid (∀ W, Below Hj wo W → W.cell? (ad8.add i) = some (.int .i64 (q : Int)) ∧ W.cell? ⟨g6, q * 2, none⟩ = some (.int .u8 ((q : Int) + 1)) ∧ W.cell? ⟨g6, q * 2 + 1, none⟩ = some (.slice (some ⟨b6 q, 0, none⟩) L L) ∧ W.cell? ⟨b6 q, j, none⟩ = some (.int .u8 (ofB (yb bs ds (t + 1) (xB q) j)))) := fun W h => by
              have h1 := hjw.out W h
              obtain ⟨ad', e, hc8⟩ := Kd.at_int h1.c8 (i : Int) (by omega) (by omega)
              injection e with e
              subst e
              rw [Int.toNat_natCast, hrd] at hc8
              obtain ⟨hs0, hs1⟩ := h1.s6.cell q hqn
              have hy := h1.y6 q hqn
              have hyl : (yr bs ds (t + 1) (xB q) L).length = L := by have := yr_len bs ds (t + 1) (xB q) L (by rw [HBL.out]; exact Nat.le_refl _); rw [this, HBL.out]
              have hyc := (Row.Is.cell (g := b6 q) (n := L) (c := L) hy j (by rw [hyl]; exact hlt)).1
              have e2 : (yr bs ds (t + 1) (xB q) L).getD j 0 = ofB (yb bs ds (t + 1) (xB q) j) := by
                have e3 := yr_full bs ds (t + 1) (xB q)
                rw [HBL.out] at e3
                rw [e3, ints_getD, range_get _ _ _ hlt]
              rw [e2] at hyc
              exact ⟨hc8, hs0, hs1, hyc⟩
            have hby : IntKind.u8.wrap ((q : Int) + 1) = (q : Int) + 1 := by simp [IntKind.wrap, IntKind.bits, IntKind.signed]; omega
            obtain ⟨x0, x1, x2, x3⟩ := HCL.out _ HBl.out
            have hbase : Hj ≤ wr.heap.size := by have := HBl.out.size; have := HHj.out; omega
            have hXl : (ints (Xp (at_.take i))).length ≤ 100000000000000 := by rw [ints_length, Xp_len, List.length_take]; have := HT.out; omega
            have hYl : (ints (Yp bs ds os t j (at_.take i))).length ≤ 100000000000000 := by rw [ints_length, Yp_len, List.length_take]; have := HT.out; omega
            have hsX : ints (Xp (at_.take i)) ++ [(q : Int) + 1] = ints (Xp (at_.take (i + 1))) := by
              have h := Xp_snoc (at_.take i) at_[i]
              rw [hq, Int.toNat_natCast, xB_int q (by omega), ← hq, ← List.take_succ_eq_append_getElem hia] at h
              rw [← hq]
              exact h
            have hsY : ints (Yp bs ds os t j (at_.take i)) ++ [ofB (yb bs ds (t + 1) (xB q) j)] = ints (Yp bs ds os t j (at_.take (i + 1))) := by
              have h := Yp_snoc (bs := bs) (ds := ds) (os := os) (t := t) j (at_.take i) at_[i]
              rw [hq, Int.toNat_natCast, ← hq, ← List.take_succ_eq_append_getElem hia] at h
              exact h
            have HsX := Lib.hid hsX
            have HsY := Lib.hid hsY
            have HXl := Lib.hid hXl
            have HYl := Lib.hid hYl
            clear hsX hsY hXl hYl hrd hq hrg
            generalize ofB (yb bs ds (t + 1) (xB q) j) = y at *
            generalize ints (Xp (at_.take i)) = Xi at *
            generalize ints (Yp bs ds os t j (at_.take i)) = Yi at *
            go_wp2
            go_quiet (fail)
            generalize hwn : World.drewN wr _ = wn
            have HXYn : Hid (XY wn Hj u11 u12 Xi Yi) := by rw [← hwn]; exact HXY.out.drewN _
            have HBn : Hid (Below Hj wo wn) := by rw [← hwn]; exact pw_below_drewN HBl.out _
            have hbasen : Hj ≤ wn.heap.size := by rw [← hwn]; exact hbase
            clear hwn HXY HBl x0 x1 x2 x3 hbase
            obtain ⟨x0, x1, x2, x3⟩ := HCL.out _ HBn.out
            go_wp2_with (first
              | ((with_reducible refine gate_builtin (b := .append) (xs := #[.tmp 123, .tmp 132]) rfl ?_); at_builtin; refine Row.append Hj (.tmp 123) (.tmp 132) u11 Xi ((q : Int) + 1) rfl rfl rfl rfl rfl HXYn.out.x hbasen HXl.out ?_; intro v1 w1 q1 q2 q3 q4
                 have HXY1 : Hid (XY w1 Hj v1 u12 _ _) := HXYn.out.addx q1 q3 q4
                 have HB1 : Hid (Below Hj wo w1) := HBn.out.trans q2
                 have hbase1 : Hj ≤ w1.heap.size := Nat.le_trans hbasen q2.size
                 clear q1 q2 q3 q4 x0 x1 x2 x3 HXYn HBn hbasen
                 obtain ⟨x0, x1, x2, x3⟩ := HCL.out _ HB1.out)
              | ((with_reducible refine gate_builtin (b := .append) (xs := #[.tmp 134, .tmp 146]) rfl ?_); at_builtin; refine Row.append Hj (.tmp 134) (.tmp 146) u12 Yi y rfl rfl rfl rfl rfl HXY1.out.y hbase1 HYl.out ?_; intro v2 w2 q1 q2 q3 q4
                 have HXY2 : Hid (XY w2 Hj v1 v2 _ _) := HXY1.out.addy q1 q3 q4
                 have HB2 : Hid (Below Hj wo w2) := HB1.out.trans q2
                 clear q1 q2 q3 q4))
            rw [HsX.out, HsY.out] at HXY2
            refine ⟨⟨i + 1, by omega, by go_num, HXY2, HB2⟩, ?_⟩
            simp [intOf]
            omega
          · obtain rfl : t = i := by omega
            have htn : t + 1 ≤ n := by have := HT.out; omega
            obtain ⟨c0', E, K, hth, hE, hM2⟩ := PureSecret.next hn1b htn HP.out HAT.out D j HM.out
            have HTH := Lib.hid hth
            have HM2 := Lib.hid hM2
            have HE := Lib.hid hE
            have hta : at_.take t = at_ := List.take_of_length_le (by rw [HAT.out]; exact Nat.le_refl _)
            rw [hta] at HXY
            have hXn : (Xp at_).length = t + 1 := by rw [Xp_len, HAT.out]
            have hYn : (Yp bs ds os t j at_).length = t + 1 := by rw [Yp_len, HAT.out]
            have HXn := Lib.hid hXn
            have HYn := Lib.hid hYn
            obtain ⟨A11, c11, e11, hc11, _⟩ := HXY.out.x.reads
            obtain ⟨A12, c12, e12, hc12, _⟩ := HXY.out.y.reads
            rw [ints_length, hXn] at e11 hc11
            rw [ints_length, hYn] at e12 hc12
            subst e11
            subst e12
            have hDl : D.length ≤ 16 * 40 := by rw [HM.out.len]; exact Nat.mul_le_mul (by omega) (by omega)
            have HDl := Lib.hid hDl
            have HV9w : Hid (Row.Is wr w8.heap.size u9 (ints D)) := HV9.out.below (by rw [← HHj.out]; exact HBl.out)
            clear hth hM2 hE hta hXn hYn hDl hil hi
            go_wp2_with fail
            refine (through_calls A11 A12 c11 c12 (t + 1) (Xp at_) (Yp bs ds os t j at_) (c0' :: E) K HXn.out HYn.out _ Hj Hj HXY.out.x HXY.out.y HTH.out).mono ?_
            rintro e w3 ⟨A14, c14, rfl, hc14, hI14, hb⟩
            have hEl : (c0' :: E).length = t + 1 := by rw [List.length_cons, HE.out]
            rw [hEl] at hc14 hI14
            have HI14 := Lib.hid hI14
            have HV93 : Hid (Row.Is w3 w8.heap.size u9 (ints D)) := HV9w.out.below hb
            have hsz : wo.heap.size ≤ wr.heap.size := by have := HBl.out.size; exact this
            have HB3 : Hid (Below w8.heap.size w8 w3) := (HB.out.trans (HBl.out.mono (by have := HB.out.size; have := HHj.out; omega))).trans (hb.mono (by have := HB.out.size; omega))
            clear hI14 hb HXY HBl HV9w HTH HXn HYn hsz
            obtain ⟨i0, hi0, _, hsz0, _⟩ := info_parts Row.infoB
            have hcut := cut_from (P := Try.prog) 22 5 .i64 Try.underlying22 hi0 1 hsz0 A14 (t + 1) c14 1 (by omega) (by omega)
            have hC2 : Kd.C (Kd.int .u8) w3 (if c14 = 1 then A14 else A14.map (·.add (1 * 1))) (ints E).length (ints E) := by
              have h1 := HI14.out.reads'.2.2
              have h2 := Kd.C_drop (m := 1) h1 (by rw [ints_length, hEl]; omega) (by rw [ints_length, hEl]; exact hc14)
              exact h2
            rw [show (1 : Int).toNat = 1 from rfl, Nat.add_sub_cancel] at hcut
            generalize (if c14 = 1 then A14 else A14.map (·.add (1 * 1))) = A2 at hcut hC2
            have HC2 := Lib.hid hC2
            have hlen : (ints D).length + (ints E).length ≤ 100000000000000 := by rw [ints_length, ints_length, HE.out]; have := HDl.out; omega
            have HLEN := Lib.hid hlen
            have HEL : Hid (t = (ints E).length) := by show t = _; rw [ints_length, HE.out]
            have happ : ints D ++ ints E = ints (D ++ E) := by unfold ints; rw [List.map_append]
            have HAPP := Lib.hid happ
            rw [hEl]
            clear hC2 hlen happ hi0 hsz0 hEl
            go_wp2_with ((with_reducible refine gate_builtin (b := .append) (xs := #[.tmp 151, .tmp 153]) rfl ?_); at_builtin; refine Row.appendRow w8.heap.size (.tmp 151) (.tmp 153) u9 (ints D) A2 t (c14 - 1) (ints E) rfl rfl rfl rfl HEL.out HV93.out HC2.out HB3.out.size HLEN.out ?_; intro v9n w4 q1 q2 q3 q4; have HV94 : Hid (Row.Is w4 w8.heap.size v9n _) := q1; have HB4 : Hid (Below w8.heap.size w8 w4) := HB3.out.trans q2; clear q1 q2 q3 q4)
            rw [HAPP.out] at HV94
            refine ⟨⟨j + 1, D ++ E, by omega, by first | go_num | rfl, HV94, HM2, HB4⟩, ?_⟩
            simp [intOf]
            omega
      · obtain rfl : L = j := by omega
        have HS := Lib.hid (HS8.out.step HB.out)
        have hDl : (ints D).length = t * L := by rw [ints_length, HM.out.len]
        obtain ⟨A9n, c9n, e9, hc9n, _⟩ := HV9.out.reads
        rw [hDl] at e9 hc9n
        subst e9
        have hdn : ∀ p ∈ at_, yr os D (t + 1) (xB p.toNat) L = yr bs ds (t + 1) (xB p.toNat) L := by
          have h := PureSecret.done (bs := bs) (ds := ds) (os := os) (t := t) (at_ := at_) (by rw [HOS.out, HBL.out]) D (by rw [HBL.out]; exact HM.out)
          rw [HOS.out, HBL.out] at h
          exact h
        have HDN := Lib.hid hdn
        clear hdn hDl hlt hj
        go_wp2_with fail
        refine (split_s os D L (t * L) HOS.out HM.out.len A6 A9n c6 c9n n kk t HT.out hkn hn1a hn1b (by omega) _ _ _ HS.out.r5 HV9.out).mono ?_
        rintro e w10 ⟨g15, c15, b15, rfl, hc15, hS15, hY15, hb⟩
        have HS10 := Lib.hid (HS.out.step hb)
        have HV15 := Lib.hid hS15
        have HY15 := Lib.hid hY15
        generalize wr.heap.size = H15 at *
        clear hS15 hY15 hb HS HV9 HB HM
        go_wp2_with fail
        go_loopw [17] (fun v17 wl => ∃ (i m : Nat), i ≤ t ∧ v17 = .int .i64 (i : Int) ∧ wl = w10.drewN m) (fun v17 _ => t - (intOf v17).toNat)
        case atStart => exact ⟨0, 0, by omega, rfl, rfl⟩
        case round =>
          obtain ⟨i, m, hi, rfl, rfl⟩ := hrel
          by_cases hil : i < t
          · have hia : i < at_.length := by rw [HAT.out]; exact hil
            have hrg := HP.out.rg _ (List.getElem_mem hia)
            obtain ⟨q, hq⟩ : ∃ q : Nat, at_[i] = (q : Int) := ⟨at_[i].toNat, by omega⟩
            have hqn : q < n := by omega
            have hrd : rd at_ (i : Int) = (q : Int) := by rw [rd_at at_ i hia, hq]
            obtain ⟨ad8, rfl, hc8⟩ := Kd.at_int HS10.out.c8 (i : Int) (by omega) (by omega)
            rw [Int.toNat_natCast, hrd] at hc8
            obtain ⟨hs0, hs1⟩ := HS10.out.s6.cell q hqn
            obtain ⟨hz0, hz1⟩ := HV15.out.cell q hqn
            unfold sl at hs1 hz1
            have hy1 := HS10.out.y6 q hqn
            have hy2 := HY15.out q hqn
            have he := HDN.out _ (List.getElem_mem hia)
            rw [hq, Int.toNat_natCast] at he
            rw [he] at hy2
            unfold sl at hy1 hy2
            obtain ⟨f1, f2, f3⟩ := hy1.reads'
            obtain ⟨f4, f5, f6⟩ := hy2.reads'
            have HEQ := Apart.eq_quiet (c := L) (d := L) f6 (by omega) f3 (by omega)
            rw [← f1] at HEQ
            have HEQ2 := Lib.hid HEQ
            clear HEQ f1 f2 f3 f4 f5 f6 hy1 hy2 he hrd hq hrg hia
            go_wp2
            go_quiet (exact HEQ2.out _ _)
            go_wp2
            go_roundw
            case rel => exact ⟨i + 1, _, by omega, by go_num, rfl⟩
            case measure => simp [intOf]; omega
          · go_wp2_with fail
            refine (Works4.works _).mono ?_
            rintro e w11 ⟨rfl, hb⟩
            have HB11 : Hid (Below w.heap.size w w11) := (pw_below_drewN HS10.out.below m).trans (hb.mono (by have := HS10.out.below.size; exact this))
            clear hb
            go_wp2
            go_ret
            exact ⟨rfl, HB11.out⟩
end Go.Proofs.Ytglnepokollijaa.HShareSecret
