/- What is said here: rows of shares that a call has made: each share's bytes are a row of their own. -/
import Derived.Test.YtglnepokollijaaApart3
import Derived.Test.YtglnepokollijaaAEvM
namespace Go.Proofs.Ytglnepokollijaa.Share
set_option linter.unusedVariables false
set_option linter.unusedSimpArgs false
open Go.RowKit Go.Proofs.Ytglnepokollijaa.Row Go.Proofs.YtglnepokollijaaW.PrintWords Go.Proofs.YtglnepokollijaaW.PrintLast Go.Proofs.YtglnepokollijaaW.PrintMore
open Gf Gfi Poly

/-- What is read at a place. -/
theorem reads_at {w : World} {A : Option Addr} {l : List B} (h : Kd.C (Kd.int .u8) w A (ints l).length (ints l)) (hl : 0 < l.length) : ∃ ad, A = some ad ∧ ∀ k, k < l.length → w.cell? (ad.add k) = some (.int .u8 (ofB (l.getD k 0#8))) := by
  obtain ⟨ad, e, hc⟩ := h.2.2 (by rw [ints_length]; exact hl)
  refine ⟨ad, e, fun k hk => ?_⟩
  have hg : (ints l)[k]? = some (ofB (l.getD k 0#8)) := by
    rw [ints, List.getElem?_map, List.getElem?_eq_getElem hk, Option.map_some, List.getD_eq_getElem?_getD, List.getElem?_eq_getElem hk]
    rfl
  obtain ⟨c, h1, h2, h3⟩ := hc k _ hg
  have hcs : c = [Value.int .u8 (ofB (l.getD k 0#8))] := h2
  subst hcs
  have h4 : w.cell? (ad.add (k * 1 + 0)) = some (Value.int .u8 (ofB (l.getD k 0#8))) := h3 0 _ rfl
  rwa [Nat.mul_one, Nat.add_zero] at h4
/-- The slice of share q. -/
def sl (b : Nat → Nat) (L q : Nat) : Value := .slice (some ⟨b q, 0, none⟩) L L
def cellsS (b : Nat → Nat) (L : Nat) : Nat → List Value
  | 0 => []
  | n + 1 => cellsS b L n ++ [.int .u8 ((n : Int) + 1), sl b L n]
theorem cellsS_len (b : Nat → Nat) (L n : Nat) : (cellsS b L n).length = n * 2 := by
  induction n with
  | zero => rfl
  | succ n ih => rw [cellsS, List.length_append, ih]; simp; omega
theorem cellsS_get (b : Nat → Nat) (L n q : Nat) (h : q < n) : (cellsS b L n)[q * 2]? = some (.int .u8 ((q : Int) + 1)) ∧ (cellsS b L n)[q * 2 + 1]? = some (sl b L q) := by
  induction n with
  | zero => omega
  | succ n ih =>
    have hl := cellsS_len b L n
    rw [cellsS]
    by_cases hq : q < n
    · obtain ⟨h1, h2⟩ := ih hq
      rw [List.getElem?_append_left (by omega), List.getElem?_append_left (by omega)]
      exact ⟨h1, h2⟩
    · obtain rfl : q = n := by omega
      rw [List.getElem?_append_right (by omega), List.getElem?_append_right (by omega), hl]
      simp
theorem cellsS_congr (b b' : Nat → Nat) (L n : Nat) (h : ∀ q, q < n → b q = b' q) : cellsS b L n = cellsS b' L n := by
  induction n with
  | zero => rfl
  | succ n ih =>
    rw [cellsS, cellsS, ih (fun q hq => h q (by omega)), sl, sl, h n (by omega)]
/-- A row of shares. -/
def IsS (W : World) (base : Nat) (v : Value) (n : Nat) (b : Nat → Nat) (L : Nat) : Prop := W.ownsRow base 44 2 v n (cellsS b L n)
theorem infoS : (Try.prog.info? 44).map (fun i => (i.zero, i.size, i.bytes)) = some (some (.agg #[.int .u8 0, .slice none 0 0]), 2, 32) := by kernel_rfl
variable {W W' : World} {base : Nat} {v : Value} {n L : Nat} {b : Nat → Nat}
theorem IsS.nil (W : World) (base : Nat) (b : Nat → Nat) (L : Nat) : IsS W base (.slice none 0 0) 0 b L := own_nil W base _ _
theorem IsS.move (h : IsS W base v n b L) (hm : ∀ k, v.ownBlock = some k → W'.heap[k]? = W.heap[k]?) : IsS W' base v n b L := own_move h hm
theorem IsS.lt (h : IsS W base v n b L) (k : Nat) (hk : v.ownBlock = some k) : base ≤ k ∧ k < W.heap.size := ⟨own_base h k hk, own_lt h k hk⟩
theorem IsS.below (h : IsS W base v n b L) (hb : Below W.heap.size W W') : IsS W' base v n b L := h.move (fun k hk => hb.block k (h.lt k hk).2)
theorem IsS.grown (h : IsS W base v n b L) {row : Option Nat} (hg : W.grownBy W' row) (hne : ∀ k, v.ownBlock = some k → some k ≠ row) : IsS W' base v n b L := h.move (fun k hk => hg.block k (h.lt k hk).2 (hne k hk))
theorem IsS.alloc (h : IsS W base v n b L) (o : Obj) : IsS (W.alloc o) base v n b L := h.move (fun k hk => Below.heap_alloc _ _ _ (h.lt k hk).2)
theorem IsS.congr (h : IsS W base v n b L) {b' : Nat → Nat} (hb : ∀ q, q < n → b q = b' q) : IsS W base v n b' L := by
  unfold IsS at h ⊢
  rw [← cellsS_congr b b' L n hb]
  exact h
/-- Rows of shares and rows of bytes share no block. -/
theorem IsS.apart {u : Value} {l : List Int} (h : IsS W base v n b L) (h' : Row.Is W base u l) (k : Nat) (hk : v.ownBlock = some k) (hk' : u.ownBlock = some k) : False := by
  rcases h.2 with ⟨e, _⟩ | ⟨g, c, cur, e, _, hg, _⟩
  · rw [e] at hk; cases hk
  rcases h'.2 with ⟨e', _⟩ | ⟨g', c', cur', e', _, hg', _⟩
  · rw [e'] at hk'; cases hk'
  rw [e] at hk
  rw [e'] at hk'
  injection hk with hk
  injection hk' with hk'
  subst hk
  subst hk'
  rw [hg] at hg'
  injection hg' with hg'
  injection hg' with _ ht _
  exact absurd ht (by decide)
theorem IsS.form (h : IsS W base v n b L) : ∃ A c, v = .slice A n c ∧ n ≤ c ∧ (0 < n → ∃ g, A = some ⟨g, 0, none⟩) := by
  rcases h.2 with ⟨e, e0⟩ | ⟨g, c, cur, e, _, _, h1, _⟩
  · exact ⟨none, 0, by rw [e, e0], by omega, fun h => by omega⟩
  · exact ⟨_, c, e, h1, fun _ => ⟨g, rfl⟩⟩
/-- Share q. -/
theorem IsS.cell {g c : Nat} (h : IsS W base (.slice (some ⟨g, 0, none⟩) n c) n b L) (q : Nat) (hq : q < n) : W.cell? ⟨g, q * 2, none⟩ = some (.int .u8 ((q : Int) + 1)) ∧ W.cell? ⟨g, q * 2 + 1, none⟩ = some (sl b L q) := by
  rcases h.2 with ⟨e, _⟩ | ⟨g', c', cur, e, _, hg, _, _, _, h4⟩
  · cases e
  injection e with e _ _
  injection e with e
  injection e with e
  subst e
  have hb : Blk.Is W g cur 44 := hg
  obtain ⟨h1, h2⟩ := cellsS_get b L n q hq
  rw [← h4, List.getElem?_take] at h1 h2
  rw [hb.cell, hb.cell]
  constructor
  · split at h1
    · rwa [Array.getElem?_toList] at h1
    · cases h1
  · split at h2
    · rwa [Array.getElem?_toList] at h2
    · cases h2
def updN (f : Nat → Nat) (i u : Nat) : Nat → Nat := fun q => if q = i then u else f q
theorem updN_at (f : Nat → Nat) (i u : Nat) : updN f i u i = u := by simp [updN]
theorem updN_ne (f : Nat → Nat) (i q u : Nat) (h : q ≠ i) : updN f i u q = f q := by simp [updN, h]
section
variable {ops : Array Oper} {Q : Exit → Act → World → Prop} {a : Act} {rest : List Oper} {o : Oper}
/-- A share is appended. -/
theorem appendS (base : Nat) (s x : Operand) (v : Value) (n g : Nat) (hgd : o.guard = none) (ho : o.op = .call { callee := .builtin .append, args := #[s, x], argTypes := #[27, 27] })
    (hs : a.eval s = v) (hx : a.eval x = .slice (some ⟨W.heap.size, 0, none⟩) 1 1) (HO : IsS W base v n b L) (hbase : base ≤ W.heap.size) (hl : n ≤ 1000000000)
    (h : ∀ v1 w1, IsS w1 base v1 (n + 1) (updN b n g) L → Below base W w1 → W.grownBy w1 v.ownBlock → wpList Try.prog ops Q rest (a.put o.dst v1) w1) :
    wpList Try.prog ops Q (o :: rest) a (W.alloc (.cells #[.int .u8 ((n : Int) + 1), .slice (some ⟨g, 0, none⟩) L L] 44)) := by
  obtain ⟨i0, hi0, hz0, hsz0, hb0⟩ := info_parts infoS
  have hnew : ∀ j u', [Value.int .u8 ((n : Int) + 1), .slice (some ⟨g, 0, none⟩) L L][j]? = some u' → (W.alloc (.cells #[.int .u8 ((n : Int) + 1), .slice (some ⟨g, 0, none⟩) L L] 44)).cell? ((⟨W.heap.size, 0, none⟩ : Addr).add j) = some u' := by
    intro j u' hj
    have e2 : (⟨W.heap.size, 0, none⟩ : Addr).add j = ⟨W.heap.size, j, none⟩ := by rw [add_plain]
    rw [e2, (Blk.Is.new W #[.int .u8 ((n : Int) + 1), .slice (some ⟨g, 0, none⟩) L L] 44).cell j]
    simpa using hj
  refine wpList_append_own _ hgd s x 27 ho base 44 i0 (.agg #[.int .u8 0, .slice none 0 0]) 2 32 Try.underlying27 hi0 hz0 hsz0 hb0 rfl (by decide) v n (cellsS b L n) hs (HO.alloc _) ⟨W.heap.size, 0, none⟩ 1 1 [.int .u8 ((n : Int) + 1), .slice (some ⟨g, 0, none⟩) L L] hx rfl hnew (by intro u' hu'; simp at hu'; rcases hu' with rfl | rfl <;> rfl) (by unfold maxLen; omega) (by omega) (by simp; omega) ?_
  intro v1 w1 ho1 hg1 _
  have hgr : W.grownBy w1 v.ownBlock := ⟨hg1.os, hg1.tape, hg1.output, Nat.le_trans (by simp) hg1.size, fun k hk hne => (hg1.block k (by simp; omega) hne).trans (Below.heap_alloc W _ k hk)⟩
  refine h v1 w1 ?_ ⟨hgr.os, hgr.tape, hgr.output, hgr.size, fun k hk => hgr.block k (by omega) (fun e => by have := (HO.lt k e.symm).1; omega)⟩ hgr
  unfold IsS
  rw [cellsS, cellsS_congr (updN b n g) b L n (fun q hq => updN_ne b n q g (by omega)), sl, updN_at]
  exact ho1
end
/-- Within the round over the shares. -/
structure Inn (w W : World) (H K : Nat) (v8 : Value) (n : Nat) (b : Nat → Nat) (L : Nat) (row : Nat → List Int) (x : B) (bq : Nat) : Prop where
  s : IsS W H v8 n b L
  y : ∀ p, p < n → Row.Is W H (sl b L p) (row p)
  below : Below H w W
  k : Blk.Is W K #[.int .u8 (ofB x), .slice (some ⟨bq, 0, none⟩) L L] 44
theorem Inn.drewN {w W : World} {H K : Nat} {v8 : Value} {n : Nat} {b : Nat → Nat} {L : Nat} {row : Nat → List Int} {x : B} {bq : Nat} (h : Inn w W H K v8 n b L row x bq) (m : Nat) : Inn w (W.drewN m) H K v8 n b L row x bq :=
  ⟨h.s, h.y, pw_below_drewN h.below m, h.k⟩
theorem set_step {w W : World} {H : Nat} {v8 : Value} {n : Nat} {b : Nat → Nat} {L : Nat} {row : Nat → List Int} (hS : IsS W H v8 n b L) (hY : ∀ p, p < n → Row.Is W H (sl b L p) (row p)) (hB : Below H w W) (hO : ∀ p q, p < q → q < n → b p < b q) (q : Nat) (hq : q < n) (j : Nat) (y : Int) :
    IsS (W.setCell ⟨b q, j, none⟩ (.int .u8 y)) H v8 n b L ∧ (∀ p, p < n → Row.Is (W.setCell ⟨b q, j, none⟩ (.int .u8 y)) H (sl b L p) (if p = q then (row q).set j y else row p)) ∧ Below H w (W.setCell ⟨b q, j, none⟩ (.int .u8 y)) := by
  refine ⟨hS.move (fun k hk => Below.heap_setCell _ _ _ _ (by rintro rfl; exact hS.apart (hY q hq) _ hk rfl)), fun p hp => ?_, hB.setCell ((hY q hq).lt (b q) rfl).1 _⟩
  by_cases h : p = q
  · subst h
    rw [if_pos rfl]
    exact Row.Is.store (hY p hp) j y
  · rw [if_neg h]
    refine (hY p hp).other (fun e => ?_) _
    have e' : some (b p) = some (b q) := e
    injection e' with e'
    rcases Nat.lt_or_gt_of_ne h with h1 | h1
    · have := hO p q h1 hq; omega
    · have := hO q p h1 hp; omega
end Go.Proofs.Ytglnepokollijaa.Share
