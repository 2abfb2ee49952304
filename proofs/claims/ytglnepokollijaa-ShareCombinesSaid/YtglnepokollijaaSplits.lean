/- What is said here: share.Split as one summary (its shares, whole and apart); lists of rows with two behind them; a struct in memory that is read. -/
import Derived.Test.YtglnepokollijaaPTx1
import Derived.Test.YtglnepokollijaaRoom
import Derived.Test.YtglnepokollijaaYs
namespace Go.Proofs.Ytglnepokollijaa.Splits
set_option linter.unusedVariables false
set_option linter.unusedSimpArgs false
open Go.RowKit Go.Proofs.Ytglnepokollijaa.Row Go.Proofs.YtglnepokollijaaW.PrintWords Go.Proofs.YtglnepokollijaaW.PrintLast Go.Proofs.YtglnepokollijaaW.PrintMore
open Gf Gfi Poly Share PT

theorem S_C {w : World} {base n c : Nat} {ok : Nat → Prop} {A : Option Addr} {l : List S44} (h : Kd.S k44 44 w base ok (.slice A n c) l) : n = l.length ∧ l.length ≤ c ∧ Kd.C k44 w A l.length l := by
  obtain ⟨h1, h2, h3⟩ := Kd.S_reads' h
  exact ⟨h1, by omega, h3⟩
/-- What Split answers. -/
structure Ans (w w' : World) (A : Option Addr) (c : Nat) (l : List S44) (us : Nat → Value) (ls : Nat → List Int) : Prop where
  cap : l.length ≤ c
  few : l.length ≤ 16
  reads : Kd.C k44 w' A l.length l
  rows : Ys.Rows w' A l.length us
  each : ∀ q, q < l.length → Row.Is w' w.heap.size (us q) (ls q) ∧ (ls q).length ≤ 1024
  un : ∀ p q, p < l.length → q < l.length → p ≠ q → ∀ k, (us p).ownBlock = some k → (us q).ownBlock ≠ some k
  below : Below w.heap.size w w'
theorem split_all (A0 : Option Addr) (c0 : Nat) (l0 : List Int) (a1 a2 : Int) (A3 : Option Addr) (c3 : Nat) (l3 : List Int) (r1 : List S44) (r2 : Int) (w : World) (hr0 : Kd.C (Kd.int .u8) w A0 l0.length l0) (hc0 : l0.length ≤ c0) (hr3 : Kd.C (Kd.int .u8) w A3 l3.length l3) (hc3 : l3.length ≤ c3) (h : share_Split.f l0 a1 a2 l3 = some (r1, r2)) :
    Calls Try.prog 10 #[.slice A0 l0.length c0, .int .i64 a1, .int .i64 a2, .slice A3 l3.length c3] w fun e w' => ∃ (A : Option Addr) (c : Nat) (us : Nat → Value) (ls : Nat → List Int), e = .returned (.tuple #[.slice A r1.length c, .int .i64 r2]) ∧ Ans w w' A c r1 us ls := by
  unfold share_Split.f at h
  split at h
  · rename_i hb
    obtain ⟨hm0, hm3, hb0, hb3⟩ := hb
    have bad : ∀ e0 : Int, some (([] : List S44), e0) = some (r1, r2) → ((e0 = 2 ∧ (a2 < 1 ∨ a1 < a2 ∨ 16 < a1)) ∨ (e0 = 3 ∧ ¬ (a2 < 1 ∨ a1 < a2 ∨ 16 < a1) ∧ 1024 < l0.length) ∨ (e0 = 41 ∧ ¬ (a2 < 1 ∨ a1 < a2 ∨ 16 < a1) ∧ l0.length ≤ 1024 ∧ (l3.length : Int) ≠ (a2 - 1) * (l0.length : Int))) →
        Calls Try.prog 10 #[.slice A0 l0.length c0, .int .i64 a1, .int .i64 a2, .slice A3 l3.length c3] w fun e w' => ∃ (A : Option Addr) (c : Nat) (us : Nat → Value) (ls : Nat → List Int), e = .returned (.tuple #[.slice A r1.length c, .int .i64 r2]) ∧ Ans w w' A c r1 us ls := by
      intro e0 he hc
      injection he with he
      injection he with e1 e2
      subst e1
      subst e2
      refine (Share.bad_calls A0 A3 l0.length l3.length c0 c3 a1 a2 e0 w hm0 hm3 hc).mono ?_
      rintro e w' ⟨rfl, rfl⟩
      have hn : Kd.S k44 44 w' w'.heap.size (fun _ => True) (.slice none 0 0) ([] : List S44) := Kd.S_nil _ _ _ _ _
      exact ⟨none, 0, fun _ => .slice none 0 0, fun _ => [], rfl, Nat.le_refl _, Nat.zero_le _, (S_C hn).2.2, fun h => absurd h (Nat.lt_irrefl 0), fun q hq => absurd hq (Nat.not_lt_zero q), fun p q hp => absurd hp (Nat.not_lt_zero p), Below.refl _ _⟩
    split at h
    · rename_i h1
      exact bad 2 h (.inl ⟨rfl, h1⟩)
    · rename_i h1
      split at h
      · rename_i h2
        exact bad 3 h (.inr (.inl ⟨rfl, h1, h2⟩))
      · rename_i h2
        split at h
        · rename_i h3
          exact bad 41 h (.inr (.inr ⟨rfl, h1, by omega, h3⟩))
        · rename_i h3
          injection h with h
          injection h with e1 e2
          subst e1
          subst e2
          have h3' : (l3.length : Int) = (a2 - 1) * (l0.length : Int) := Decidable.not_not.1 h3
          have hi0 := byteL_ints hb0
          have hi3 := byteL_ints hb3
          have hl0 : (l0.map Gfi.toB).length = l0.length := List.length_map _
          have hl3 : (l3.map Gfi.toB).length = l3.length := List.length_map _
          have hk : ((a2.toNat : Nat) : Int) = a2 := by omega
          have hn : ((a1.toNat : Nat) : Int) = a1 := by omega
          have hD : (l3.map Gfi.toB).length = (a2.toNat - 1) * (l0.map Gfi.toB).length := by
            rw [hl0, hl3]
            have : ((a2.toNat - 1 : Nat) : Int) = a2 - 1 := by omega
            have h4 : (((a2.toNat - 1) * l0.length : Nat) : Int) = (l3.length : Int) := by rw [Int.natCast_mul, this, h3']
            omega
          have hsp := Share.split_calls (l0.map Gfi.toB) (l3.map Gfi.toB) A0 A3 c0 c3 a1.toNat a2.toNat w (by rw [hi0, hl0]; exact hr0) (by rw [hl0]; exact hc0) (by rw [hi3, hl3]; exact hr3) (by rw [hl3]; exact hc3) (by omega) (by omega) (by omega) (by rw [hl0]; omega) hD
          rw [hl0, hl3, hk, hn] at hsp
          refine hsp.mono ?_
          rintro e w' ⟨v, b, rfl, hS, hY, hO, hB⟩
          have hlen : (splitR (l0.map Gfi.toB) (l3.map Gfi.toB) a2.toNat a1.toNat).length = a1.toNat := by unfold splitR; rw [List.length_map, List.length_range]
          have hSS : Kd.S k44 44 w' w.heap.size (fun _ => True) v (splitR (l0.map Gfi.toB) (l3.map Gfi.toB) a2.toNat a1.toNat) := by
            unfold splitR
            rw [hl0]
            exact split_S hS hY hO
          obtain ⟨A, c, rfl, hnc, hA⟩ := hS.form
          obtain ⟨g1, g2, g3⟩ := S_C hSS
          obtain ⟨g, rfl⟩ := hA (by omega)
          refine ⟨_, c, sl b l0.length, fun q => yr (l0.map Gfi.toB) (l3.map Gfi.toB) a2.toNat (xB q) l0.length, by rw [hlen], ?_⟩
          have hw := hlen
          generalize splitR (l0.map Gfi.toB) (l3.map Gfi.toB) a2.toNat a1.toNat = R at *
          refine ⟨g2, by omega, g3, fun _ => ⟨_, rfl, fun q hq => ⟨?_, _, _, _, rfl⟩⟩, fun q hq => ⟨hY q (by omega), ?_⟩, fun p q hp hq hne k e1 e2 => ?_, hB⟩
          · have := (hS.cell q (by omega)).2
            have e : (⟨g, 0, none⟩ : Addr).add (q * 2) = ⟨g, q * 2, none⟩ := by simp [Addr.add]; omega
            rw [e]
            exact this
          · show (yr _ _ _ _ _).length ≤ 1024
            rw [← hl0, yr_len _ _ _ _ _ (Nat.le_refl _)]
            omega
          · have q1 : b p = k := by simpa [sl, Value.ownBlock] using e1
            have q2 : b q = k := by simpa [sl, Value.ownBlock] using e2
            rcases Nat.lt_or_gt_of_ne hne with hlt | hlt
            · have := hO p q hlt (by omega); omega
            · have := hO q p hlt (by omega); omega
  · cases h
/-- Rows with two more behind them. -/
def two (n : Nat) (us : Nat → Value) (a b : Value) : Nat → Value := fun q => if q < n then us q else if q = n then a else b
def twoL (n : Nat) (ls : Nat → List Int) (a b : List Int) : Nat → List Int := fun q => if q < n then ls q else if q = n then a else b
theorem two_rows (n : Nat) (us : Nat → Value) (a b : Value) : Apart.rows n us ++ [a, b] = Apart.rows (n + 2) (two n us a b) := by
  unfold Apart.rows
  rw [List.range_succ, List.range_succ, List.map_append, List.map_append, List.append_assoc]
  congr 1
  · exact List.map_congr_left (fun q hq => by rw [two, if_pos (List.mem_range.1 hq)])
  · simp [two]; omega
def one (n : Nat) (us : Nat → Value) (a : Value) : Nat → Value := fun q => if q < n then us q else a
def oneL (n : Nat) (ls : Nat → List Int) (a : List Int) : Nat → List Int := fun q => if q < n then ls q else a
theorem one_rows (n : Nat) (us : Nat → Value) (a : Value) : Apart.rows n us ++ [a] = Apart.rows (n + 1) (one n us a) := by
  unfold Apart.rows
  rw [List.range_succ, List.map_append]
  congr 1
  · exact List.map_congr_left (fun q hq => by rw [one, if_pos (List.mem_range.1 hq)])
  · simp [one]
theorem two_un {n : Nat} {us : Nat → Value} {a b : Value} {h1 h2 : Nat} (hu : ∀ p q, p < n → q < n → p ≠ q → ∀ k, (us p).ownBlock = some k → (us q).ownBlock ≠ some k) (hl : ∀ q, q < n → ∀ k, (us q).ownBlock = some k → h2 ≤ k) (ha : ∀ k, a.ownBlock = some k → k < h1) (hb : ∀ k, b.ownBlock = some k → h1 ≤ k ∧ k < h2) (hh : h1 ≤ h2) :
    ∀ p q, p < n + 2 → q < n + 2 → p ≠ q → ∀ k, (two n us a b p).ownBlock = some k → (two n us a b q).ownBlock ≠ some k := by
  intro p q hp hq hne k e1 e2
  unfold two at e1 e2
  split at e1 <;> split at e2
  · exact hu p q (by assumption) (by assumption) hne k e1 e2
  · rename_i h3 h4
    have := hl p h3 k e1
    split at e2
    · have := ha k e2; omega
    · have := (hb k e2).2; omega
  · rename_i h3 h4
    have := hl q h4 k e2
    split at e1
    · have := ha k e1; omega
    · have := (hb k e1).2; omega
  · split at e1 <;> split at e2
    · omega
    · have := ha k e1; have := (hb k e2).1; omega
    · have := ha k e2; have := (hb k e1).1; omega
    · omega
theorem one_un {n : Nat} {us : Nat → Value} {a : Value} {h1 : Nat} (hu : ∀ p q, p < n → q < n → p ≠ q → ∀ k, (us p).ownBlock = some k → (us q).ownBlock ≠ some k) (hl : ∀ q, q < n → ∀ k, (us q).ownBlock = some k → k < h1) (ha : ∀ k, a.ownBlock = some k → h1 ≤ k) :
    ∀ p q, p < n + 1 → q < n + 1 → p ≠ q → ∀ k, (one n us a p).ownBlock = some k → (one n us a q).ownBlock ≠ some k := by
  intro p q hp hq hne k e1 e2
  unfold one at e1 e2
  split at e1 <;> split at e2
  · exact hu p q (by assumption) (by assumption) hne k e1 e2
  · rename_i h3 h4
    have := hl p h3 k e1
    have := ha k e2; omega
  · rename_i h3 h4
    have := hl q h4 k e2
    have := ha k e1; omega
  · omega
theorem Is.row {W : World} {base : Nat} {v : Value} {l : List Int} (h : Room.Is W base v l) : Row.Is W base v l := by
  obtain ⟨g, cap, e, hc, ho⟩ := h
  have h1 : Row.Is W base (.slice (some ⟨g, 0, none⟩) (l.length + 7) cap) (l ++ Room.tail7) := by
    unfold Row.Is
    rw [show (l ++ Room.tail7).length = l.length + 7 by simp [Room.tail7]]
    exact ho
  rw [e]
  exact h1.take
theorem _root_.Go.Proofs.Ytglnepokollijaa.Room.Is.low {W : World} {base b : Nat} {v : Value} {l : List Int} (h : Room.Is W base v l) (hb : b ≤ base) : Room.Is W b v l := by
  obtain ⟨g, cap, e, hc, ho⟩ := h
  exact ⟨g, cap, e, hc, own_weaken ho hb⟩
/-- Four fields in memory. -/
structure Bx (W : World) (g : Nat) (x0 x1 x2 x3 : Value) : Prop where
  f0 : W.cell? ⟨g, 0, none⟩ = some x0
  f1 : W.cell? ⟨g, 1, none⟩ = some x1
  f2 : W.cell? ⟨g, 2, none⟩ = some x2
  f3 : W.cell? ⟨g, 3, none⟩ = some x3
theorem Bx.below {W W' : World} {g : Nat} {x0 x1 x2 x3 : Value} (h : Bx W g x0 x1 x2 x3) (hb : Below W.heap.size W W') : Bx W' g x0 x1 x2 x3 :=
  ⟨(hb.cell (World.block_lt_of_cell? _ _ h.f0)).trans h.f0, (hb.cell (World.block_lt_of_cell? _ _ h.f1)).trans h.f1, (hb.cell (World.block_lt_of_cell? _ _ h.f2)).trans h.f2, (hb.cell (World.block_lt_of_cell? _ _ h.f3)).trans h.f3⟩
theorem Bx.new (W : World) (t : TypeId) (x0 x1 x2 x3 : Value) : Bx (W.alloc (.cells #[x0, x1, x2, x3] t)) W.heap.size x0 x1 x2 x3 :=
  ⟨Blk.Is.cell (Blk.Is.new W #[x0, x1, x2, x3] t) 0, Blk.Is.cell (Blk.Is.new W #[x0, x1, x2, x3] t) 1, Blk.Is.cell (Blk.Is.new W #[x0, x1, x2, x3] t) 2, Blk.Is.cell (Blk.Is.new W #[x0, x1, x2, x3] t) 3⟩
end Go.Proofs.Ytglnepokollijaa.Splits
