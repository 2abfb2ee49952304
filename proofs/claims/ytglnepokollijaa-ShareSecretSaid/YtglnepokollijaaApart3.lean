/- What is said here: an append to a row of bytes leaves the shorter row that it came from as it was; rows of slices of bytes that a call has made; rows of bytes that share no memory. -/
import Derived.Test.YtglnepokollijaaRow
import Derived.Test.YtglnepokollijaaBlk
import Derived.ArgAppend
import Derived.Test.YtglnepokollijaaPAx
import Derived.BigQuiet
import Derived.Deep.QuietTactic
namespace Go.Proofs.Ytglnepokollijaa.Row
set_option linter.unusedVariables false
set_option linter.unusedSimpArgs false
open Go.RowKit Go.Proofs.YtglnepokollijaaW.PrintWords Go.Proofs.YtglnepokollijaaW.PrintLast Go.Proofs.YtglnepokollijaaW.PrintMore

/-- A row's first elements are a row. -/
theorem Is.take {W : World} {base g n c : Nat} {l m : List Int} (h : Is W base (.slice (some ⟨g, 0, none⟩) n c) (l ++ m)) : Is W base (.slice (some ⟨g, 0, none⟩) l.length c) l := by
  have hn := h.reads'.1
  have hR := h.R (fun _ => True) (fun _ _ => trivial)
  have h2 := Kd.R_take (m := l.length) hR (by simp)
  rw [List.take_left] at h2
  exact of_R h2
/-- A block's row has one room. -/
theorem Is.cap {W : World} {base g n c n' c' : Nat} {l l' : List Int} (h : Is W base (.slice (some ⟨g, 0, none⟩) n c) l) (h' : Is W base (.slice (some ⟨g, 0, none⟩) n' c') l') : c = c' := by
  rcases h.2 with ⟨e, _⟩ | ⟨_, _, cur, e, _, hg, _, _, h3, _⟩
  · cases e
  rcases h'.2 with ⟨e', _⟩ | ⟨_, _, cur', e', _, hg', _, _, h3', _⟩
  · cases e'
  injection e with e1 _ e3
  injection e' with e1' _ e3'
  injection e1 with e1
  injection e1 with e1
  injection e1' with e1'
  injection e1' with e1'
  subst e1
  subst e1'
  rw [hg] at hg'
  injection hg' with hg'
  injection hg' with hg' _ _
  subst hg'
  omega
section
variable {W : World} {ops : Array Oper} {Q : Exit → Act → World → Prop} {a : Act} {rest : List Oper} {o : Oper}
/-- An element is appended to the row g; the row v, whose bytes g began with, stays as it was. -/
theorem appendKeep (base : Nat) (s x : Operand) (v g : Value) (l m : List Int) (b : Int) (hgd : o.guard = none) (ho : o.op = .call { callee := .builtin .append, args := #[s, x], argTypes := #[22, 22] })
    (hs : a.eval s = g) (hx : a.eval x = .slice (some ⟨W.heap.size, 0, none⟩) 1 1) (HV : Is W base v l) (HG : Is W base g (l ++ m)) (hbase : base ≤ W.heap.size) (hl : (l ++ m).length ≤ 100000000000000)
    (h : ∀ g1 w1, Is w1 base v l → Is w1 base g1 (l ++ m ++ [b]) → Below base W w1 → W.grownBy w1 g.ownBlock → (g1.ownBlock = g.ownBlock ∨ ∃ k, g1.ownBlock = some k ∧ W.heap.size ≤ k) → wpList Try.prog ops Q rest (a.put o.dst g1) w1) :
    wpList Try.prog ops Q (o :: rest) a (W.alloc (.cells #[.int .u8 b] 5)) := by
  obtain ⟨i0, hi0, hz0, hsz0, hb0⟩ := info_parts infoB
  have HV' := HV.alloc (.cells #[.int .u8 b] 5)
  have HG' := HG.alloc (.cells #[.int .u8 b] 5)
  have hnew : ∀ j u, [Value.int .u8 b][j]? = some u → (W.alloc (.cells #[.int .u8 b] 5)).cell? ((⟨W.heap.size, 0, none⟩ : Addr).add j) = some u := by
    intro j u hj
    match j, hj with
    | 0, hj =>
      injection hj with hj
      subst hj
      have := Blk.Is.cell (Blk.Is.new W #[.int .u8 b] 5) 0
      exact this
    | j + 1, hj => simp at hj
  have h1c : ∀ u ∈ [Value.int .u8 b], u.oneCell' = true := by intro u hu; simp at hu; subst hu; rfl
  rcases HG.2 with ⟨e, e0⟩ | ⟨gb, cap, cur, e, hgb, hg, hc1, hc2, hc3, hc4⟩
  · have e1 : l ++ m = [] := List.eq_nil_of_length_eq_zero (by omega)
    subst e
    rw [e1] at h
    refine wpList_append_grows _ hgd s x 22 ho 5 i0 (.int .u8 0) 1 1 Try.underlying22 hi0 hz0 hsz0 hb0 rfl (by decide) none 0 0 [] hs (fun _ => ⟨rfl, rfl⟩) rfl (fun b hb => by cases hb) ⟨W.heap.size, 0, none⟩ 1 1 [Value.int .u8 b] hx rfl hnew h1c (by omega) (by decide) (by decide) ?_
    intro g1 w1 ho1 hg1
    have hB : Below base W w1 := ((Below.refl base W).alloc hbase _).grown hg1 (by simp; omega) (fun k e => by cases e)
    refine h g1 w1 (HV'.grown hg1 (fun k _ => by simp)) ?_ hB ⟨hB.os, hB.tape, hB.output, hB.size, fun k hk _ => (hg1.block k (by simp; omega) (by simp)).trans (Below.heap_alloc W _ k hk)⟩ (.inr ?_)
    · exact own_weaken (show Is w1 _ g1 ([] ++ [b]) from ho1) (by simp; omega)
    · have hlt := Is.lt (show Is w1 _ g1 ([] ++ [b]) from ho1)
      rcases ho1.2 with ⟨_, e0⟩ | ⟨k, _, _, e, hk, _⟩
      · omega
      · exact ⟨k, by rw [e]; rfl, Nat.le_trans (by simp) hk⟩
  · have hgv : g = .slice (some ⟨gb, 0, none⟩) (l ++ m).length cap := e
    have hgb2 : gb < W.heap.size := (HG.lt gb (by rw [e]; rfl)).2
    rw [e] at hs
    by_cases hf : (l ++ m).length + 1 ≤ cap
    · refine wpList_append_fits _ hgd s x 22 ho base 5 i0 1 Try.underlying22 hi0 hsz0 gb (l ++ m).length cap (encs (Value.int .u8) (l ++ m)) hs (by rw [← e]; exact HG') ⟨W.heap.size, 0, none⟩ 1 1 [Value.int .u8 b] hx rfl hnew h1c hf ?_
      intro w1 ho1 hg1
      have hI : Is w1 base (.slice (some ⟨gb, 0, none⟩) ((l ++ m).length + 1) cap) (l ++ m ++ [b]) := by
        unfold Is
        rw [encs_append, show (l ++ m ++ [b]).length = (l ++ m).length + 1 from List.length_append]
        exact ho1
      have hgr : W.grownBy w1 (some gb) := ⟨hg1.os, hg1.tape, hg1.output, Nat.le_trans (by simp) hg1.size, fun k hk hne => (hg1.block k (by simp; omega) hne).trans (Below.heap_alloc W _ k hk)⟩
      have hB : Below base W w1 := ⟨hgr.os, hgr.tape, hgr.output, hgr.size, fun k hk => hgr.block k (by omega) (fun e => by injection e; omega)⟩
      refine h _ w1 ?_ hI hB (by rw [hgv]; exact hgr) (.inl (by rw [hgv]; rfl))
      rcases HV.2 with ⟨ev, ev0⟩ | ⟨vb, vcap, vcur, ev, hvb, hv, _⟩
      · have : l = [] := List.eq_nil_of_length_eq_zero ev0
        rw [ev, this]
        exact Is.nil _ _
      · by_cases hsame : vb = gb
        · subst hsame
          have hcap : cap = vcap := Is.cap (by rw [← e]; exact HG) (by rw [← ev]; exact HV)
          rw [ev, ← hcap]
          rw [List.append_assoc] at hI
          exact hI.take
        · exact HV.grown hgr (fun k hk => by rw [ev] at hk; injection hk with hk; rw [← hk]; intro e; injection e with e; exact hsame e)
    · refine wpList_append_grows _ hgd s x 22 ho 5 i0 (.int .u8 0) 1 1 Try.underlying22 hi0 hz0 hsz0 hb0 rfl (by decide) (some ⟨gb, 0, none⟩) (l ++ m).length cap (encs (Value.int .u8) (l ++ m)) hs (fun h => by cases h) (by rw [encs_length, Nat.mul_one]) ?_ ⟨W.heap.size, 0, none⟩ 1 1 [Value.int .u8 b] hx rfl hnew h1c (by omega) (by unfold maxLen; omega) (by omega) ?_
      · intro ad had j u hj
        injection had with had
        subst had
        have hb2 : Blk.Is W gb cur 5 := hg
        have h3 := (hb2.alloc (.cells #[.int .u8 b] 5)).cell j
        have e2 : (⟨gb, 0, none⟩ : Addr).add j = ⟨gb, j, none⟩ := by rw [add_plain]
        rw [e2, h3]
        rw [← hc4, List.getElem?_take] at hj
        split at hj
        · rw [← hj, Array.getElem?_toList]
        · cases hj
      · intro g1 w1 ho1 hg1
        have hI : Is w1 (W.heap.size + 1) g1 (l ++ m ++ [b]) := by
          unfold Is
          rw [encs_append, show (l ++ m ++ [b]).length = (l ++ m).length + 1 from List.length_append]
          have : (W.alloc (.cells #[.int .u8 b] 5)).heap.size = W.heap.size + 1 := by simp
          rw [this] at ho1
          exact ho1
        have hgr : ∀ r, W.grownBy w1 r := fun r => ⟨hg1.os, hg1.tape, hg1.output, Nat.le_trans (by simp) hg1.size, fun k hk _ => (hg1.block k (by simp; omega) (by simp)).trans (Below.heap_alloc W _ k hk)⟩
        have hB : Below base W w1 := ⟨(hgr none).os, (hgr none).tape, (hgr none).output, (hgr none).size, fun k hk => (hgr none).block k (by omega) (by simp)⟩
        refine h g1 w1 (HV.grown (hgr none) (fun k _ => by simp)) (hI.lower (by omega)) hB (hgr _) (.inr ?_)
        rcases hI.2 with ⟨_, e0⟩ | ⟨k, _, _, e, hk, _⟩
        · simp at e0
        · exact ⟨k, by rw [e]; rfl, by omega⟩
end
end Go.Proofs.Ytglnepokollijaa.Row

namespace Go.Proofs.Ytglnepokollijaa.Row
set_option linter.unusedVariables false
set_option linter.unusedSimpArgs false
open Go.RowKit Go.Proofs.YtglnepokollijaaW.PrintWords Go.Proofs.YtglnepokollijaaW.PrintLast Go.Proofs.YtglnepokollijaaW.PrintMore

/-- A row of slices (the values themselves). -/
def IsV (W : World) (base : Nat) (v : Value) (vs : List Value) : Prop := W.ownsRow base 22 1 v vs.length vs
theorem infoV : (Try.prog.info? 22).map (fun i => (i.zero, i.size, i.bytes)) = some (some (.slice none 0 0), 1, 24) := by kernel_rfl
variable {W W' : World} {base : Nat} {v : Value} {vs : List Value}
theorem IsV.nil (W : World) (base : Nat) : IsV W base (.slice none 0 0) [] := own_nil W base _ _
theorem IsV.move (h : IsV W base v vs) (hm : ∀ k, v.ownBlock = some k → W'.heap[k]? = W.heap[k]?) : IsV W' base v vs := own_move h hm
theorem IsV.lt (h : IsV W base v vs) (k : Nat) (hk : v.ownBlock = some k) : base ≤ k ∧ k < W.heap.size := ⟨own_base h k hk, own_lt h k hk⟩
theorem IsV.below (h : IsV W base v vs) (hb : Below W.heap.size W W') : IsV W' base v vs := h.move (fun k hk => hb.block k (h.lt k hk).2)
theorem IsV.grown (h : IsV W base v vs) {row : Option Nat} (hg : W.grownBy W' row) (hne : ∀ k, v.ownBlock = some k → some k ≠ row) : IsV W' base v vs := h.move (fun k hk => hg.block k (h.lt k hk).2 (hne k hk))
theorem IsV.alloc (h : IsV W base v vs) (o : Obj) : IsV (W.alloc o) base v vs := h.move (fun k hk => Below.heap_alloc _ _ _ (h.lt k hk).2)
/-- Rows of slices and rows of bytes share no block. -/
theorem IsV.apart {u : Value} {l : List Int} (h : IsV W base v vs) (h' : Is W base u l) (k : Nat) (hk : v.ownBlock = some k) (hk' : u.ownBlock = some k) : False := by
  rcases h.2 with ⟨e, _⟩ | ⟨g, c, cur, e, _, hg, _⟩
  · rw [e] at hk; cases hk
  rcases h'.2 with ⟨e', _⟩ | ⟨g', c', cur', e', _, hg', _⟩
  · rw [e'] at hk'; cases hk'
  rw [e] at hk
  rw [e'] at hk'
  injection hk with hk
  injection hk' with hk'
  subst hk
  subst hk'
  rw [hg] at hg'
  injection hg' with hg'
  injection hg' with _ ht _
  exact absurd ht (by decide)
/-- Element i. -/
theorem IsV.cell {g n c : Nat} (h : IsV W base (.slice (some ⟨g, 0, none⟩) n c) vs) (i : Nat) (hi : i < vs.length) : W.cell? ⟨g, i, none⟩ = some vs[i] := by
  rcases h.2 with ⟨e, _⟩ | ⟨g', c', cur, e, _, hg, _, _, _, h4⟩
  · cases e
  injection e with e _ _
  injection e with e
  injection e with e
  subst e
  have hb : Blk.Is W g cur 22 := hg
  rw [hb.cell i]
  have : (cur.toList.take (vs.length * 1))[i]? = some vs[i] := by rw [h4]; exact List.getElem?_eq_getElem hi
  rw [List.getElem?_take] at this
  split at this
  · rwa [Array.getElem?_toList] at this
  · cases this
/-- What it looks like. -/
theorem IsV.shape (h : IsV W base v vs) (hv : 0 < vs.length) : ∃ g c, v = .slice (some ⟨g, 0, none⟩) vs.length c ∧ vs.length ≤ c ∧ c ≤ maxLen ∧ base ≤ g := by
  rcases h.2 with ⟨_, h⟩ | ⟨g, c, cur, e, hb, _, h1, h2, _⟩
  · omega
  · exact ⟨g, c, e, h1, h2, hb⟩
section
variable {ops : Array Oper} {Q : Exit → Act → World → Prop} {a : Act} {rest : List Oper} {o : Oper}
/-- A slice is appended. -/
theorem appendV (base : Nat) (s x : Operand) (v u : Value) (vs : List Value) (hgd : o.guard = none) (ho : o.op = .call { callee := .builtin .append, args := #[s, x], argTypes := #[33, 33] })
    (hs : a.eval s = v) (hx : a.eval x = .slice (some ⟨W.heap.size, 0, none⟩) 1 1) (HO : IsV W base v vs) (hu : u.oneCell' = true) (hbase : base ≤ W.heap.size) (hl : vs.length ≤ 1000000000)
    (h : ∀ v1 w1, IsV w1 base v1 (vs ++ [u]) → Below base W w1 → W.grownBy w1 v.ownBlock → wpList Try.prog ops Q rest (a.put o.dst v1) w1) :
    wpList Try.prog ops Q (o :: rest) a (W.alloc (.cells #[u] 22)) := by
  obtain ⟨i0, hi0, hz0, hsz0, hb0⟩ := info_parts infoV
  have hnew : ∀ j u', [u][j]? = some u' → (W.alloc (.cells #[u] 22)).cell? ((⟨W.heap.size, 0, none⟩ : Addr).add j) = some u' := by
    intro j u' hj
    match j, hj with
    | 0, hj =>
      injection hj with hj
      subst hj
      exact Blk.Is.cell (Blk.Is.new W #[u] 22) 0
    | j + 1, hj => simp at hj
  refine wpList_append_own _ hgd s x 33 ho base 22 i0 (.slice none 0 0) 1 24 Try.underlying33 hi0 hz0 hsz0 hb0 rfl (by decide) v vs.length vs hs (HO.alloc _) ⟨W.heap.size, 0, none⟩ 1 1 [u] hx rfl hnew (by intro u' hu'; simp at hu'; subst hu'; exact hu) (by unfold maxLen; omega) (by omega) (by simp; omega) ?_
  intro v1 w1 ho1 hg1 _
  have hgr : W.grownBy w1 v.ownBlock := ⟨hg1.os, hg1.tape, hg1.output, Nat.le_trans (by simp) hg1.size, fun k hk hne => (hg1.block k (by simp; omega) hne).trans (Below.heap_alloc W _ k hk)⟩
  refine h v1 w1 ?_ ⟨hgr.os, hgr.tape, hgr.output, hgr.size, fun k hk => hgr.block k (by omega) (fun e => by have := (HO.lt k e.symm).1; omega)⟩ hgr
  unfold IsV
  rw [List.length_append]
  exact ho1
end
end Go.Proofs.Ytglnepokollijaa.Row

namespace Go.Proofs.Ytglnepokollijaa.Apart
set_option linter.unusedVariables false
set_option linter.unusedSimpArgs false
open Go.RowKit Go.Proofs.Ytglnepokollijaa.Row Go.Proofs.YtglnepokollijaaW.PrintWords Go.Proofs.YtglnepokollijaaW.PrintLast Go.Proofs.YtglnepokollijaaW.PrintMore

def rows (n : Nat) (f : Nat → Value) : List Value := (List.range n).map f
theorem rows_len (n : Nat) (f : Nat → Value) : (rows n f).length = n := by simp [rows]
theorem rows_get (n : Nat) (f : Nat → Value) (q : Nat) (h : q < n) : (rows n f)[q]'(by rw [rows_len]; exact h) = f q := by simp [rows]
def upd (f : Nat → Value) (i : Nat) (u : Value) : Nat → Value := fun q => if q = i then u else f q
theorem upd_at (f : Nat → Value) (i : Nat) (u : Value) : upd f i u i = u := by simp [upd]
theorem upd_ne (f : Nat → Value) (i q : Nat) (u : Value) (h : q ≠ i) : upd f i u q = f q := by simp [upd, h]
theorem rows_upd (f : Nat → Value) (i : Nat) (u : Value) : rows (i + 1) (upd f i u) = rows i f ++ [u] := by
  unfold rows
  rw [List.range_succ, List.map_append]
  congr 1
  · apply List.map_congr_left
    intro q hq
    rw [List.mem_range] at hq
    exact upd_ne f i q u (by omega)
  · simp [upd]
theorem _root_.Go.Proofs.Ytglnepokollijaa.Row.IsV.low {W : World} {base b : Nat} {v : Value} {vs : List Value} (h : IsV W base v vs) (hb : b ≤ base) : IsV W b v vs := own_weaken h hb
theorem _root_.Go.Proofs.Ytglnepokollijaa.Row.IsV.at {W : World} {base g n c m : Nat} {f : Nat → Value} (h : IsV W base (.slice (some ⟨g, 0, none⟩) n c) (rows m f)) (i : Nat) (hi : i < m) : W.cell? ⟨g, i, none⟩ = some (f i) := by
  have := h.cell i (by rw [rows_len]; exact hi)
  rwa [rows_get m f i hi] at this
theorem _root_.Go.Proofs.Ytglnepokollijaa.Row.IsV.form {W : World} {base : Nat} {v : Value} {vs : List Value} (h : IsV W base v vs) : ∃ A c, v = .slice A vs.length c ∧ (0 < vs.length → ∃ g, A = some ⟨g, 0, none⟩) := by
  rcases h.2 with ⟨e, e0⟩ | ⟨g, c, cur, e, _⟩
  · exact ⟨none, 0, by rw [e, e0], fun h => by omega⟩
  · exact ⟨_, c, e, fun _ => ⟨g, rfl⟩⟩
/-- The rows, and copies of them. -/
structure St (W : World) (base H n : Nat) (all v3 : Value) (vs us : Nat → Value) (ls : Nat → List Int) : Prop where
  row : IsV W base all (rows n vs)
  was : IsV W H v3 (rows n us)
  each : ∀ q, q < n → Is W base (vs q) (ls q)
  eachU : ∀ q, q < n → Is W H (us q) (ls q)
/-- Where they lie. -/
structure Lie (H H2 n : Nat) (all v3 : Value) (vs us : Nat → Value) : Prop where
  lall : ∀ k, all.ownBlock = some k → k < H
  lwas : ∀ k, v3.ownBlock = some k → H ≤ k ∧ k < H2
  lvs : ∀ q, q < n → ∀ k, (vs q).ownBlock = some k → k < H
  lus : ∀ q, q < n → ∀ k, (us q).ownBlock = some k → H ≤ k ∧ k < H2
  un : ∀ p q, p < n → q < n → p ≠ q → ∀ k, (vs p).ownBlock = some k → (vs q).ownBlock ≠ some k
  le : H ≤ H2
/-- The rows that were gone on with. -/
structure More (W : World) (base H2 K i : Nat) (v5 : Value) (vs ms : Nat → Value) (ls : Nat → List Int) (b : Nat → Int) : Prop where
  row : IsV W H2 v5 (rows i ms)
  each : ∀ q, q < i → Is W base (ms q) (ls q ++ List.replicate 40 (b q))
  own : ∀ q, q < i → (ms q).ownBlock = (vs q).ownBlock ∨ ∃ k, (ms q).ownBlock = some k ∧ H2 ≤ k ∧ k < K
/-- A row that is gone on with. -/
structure Go (W : World) (base K : Nat) (g v : Value) (l m : List Int) : Prop where
  is : Is W base g (l ++ m)
  own : g.ownBlock = v.ownBlock ∨ ∃ k, g.ownBlock = some k ∧ K ≤ k
variable {W W' : World} {m : List Int} {l5 : List Value} {base H H2 K n i : Nat} {all v3 v5 g : Value} {vs us ms : Nat → Value} {ls : Nat → List Int} {b : Nat → Int}
/-- No other row lies where the one lies that is gone on with. -/
theorem Go.off (hg : Go W base K g (vs i) (ls i) m) (hL : Lie H H2 n all v3 vs us) (hK : H2 ≤ K) (hi : i < n) (k : Nat) (hk : g.ownBlock = some k) :
    (∀ q, q < n → q ≠ i → (vs q).ownBlock ≠ some k) ∧ (∀ q, q < n → (us q).ownBlock ≠ some k) ∧ (k < H ∧ (vs i).ownBlock = some k ∨ K ≤ k) := by
  have hle := hL.le
  rcases hg.own with h | ⟨k', h, h2⟩
  · rw [hk] at h
    have h3 := hL.lvs i hi k h.symm
    refine ⟨fun q hq hne e => hL.un i q hi hq (Ne.symm hne) k h.symm e, fun q hq e => ?_, .inl ⟨h3, h.symm⟩⟩
    have := hL.lus q hq k e
    omega
  · rw [hk] at h
    injection h with h
    subst h
    refine ⟨fun q hq hne e => ?_, fun q hq e => ?_, .inr h2⟩
    · have := hL.lvs q hq k e; omega
    · have := hL.lus q hq k e; omega
/-- .. so an append to it leaves them alone. -/
theorem St.go (hS : St W base H n all v3 vs us ls) (hg : Go W base K g (vs i) (ls i) m) (hL : Lie H H2 n all v3 vs us) (hK : H2 ≤ K) (hi : i < n) (hbase : base ≤ H) (hgr : W.grownBy W' g.ownBlock) (hv : Is W' base (vs i) (ls i)) : St W' base H n all v3 vs us ls where
  row := hS.row.grown hgr (fun k hk e => hS.row.apart hg.is k hk e.symm)
  was := hS.was.grown hgr (fun k hk e => (hS.was.low hbase).apart hg.is k hk e.symm)
  each q hq := by
    by_cases h : q = i
    · subst h; exact hv
    · exact (hS.each q hq).grown hgr (fun k hk e => (hg.off hL hK hi k e.symm).1 q hq h hk)
  eachU q hq := (hS.eachU q hq).grown hgr (fun k hk e => (hg.off hL hK hi k e.symm).2.1 q hq hk)
theorem More.go (hM : More W base H2 K i v5 vs ms ls b) (hg : Go W base K g (vs i) (ls i) m) (hL : Lie H H2 n all v3 vs us) (hK : H2 ≤ K) (hi : i < n) (hbase : base ≤ H2) (hgr : W.grownBy W' g.ownBlock) : More W' base H2 K i v5 vs ms ls b where
  row := hM.row.grown hgr (fun k hk e => (hM.row.low hbase).apart hg.is k hk e.symm)
  each q hq := (hM.each q hq).grown hgr (fun k hk e => by
    have ho := hg.off hL hK hi k e.symm
    rcases hM.own q hq with h | ⟨k', h, h1, h2⟩
    · rw [hk] at h
      exact ho.1 q (by omega) (by omega) h.symm
    · rw [hk] at h
      injection h with h
      subst h
      have := hL.le
      rcases ho.2.2 with h | h <;> omega)
  own := hM.own
/-- The row of rows is appended to: the rows of bytes stay. -/
theorem St.more (hS : St W base H n all v3 vs us ls) (h5 : IsV W H2 v5 l5) (hL : Lie H H2 n all v3 vs us) (hbase : base ≤ H) (hgr : W.grownBy W' v5.ownBlock) : St W' base H n all v3 vs us ls where
  row := hS.row.grown hgr (fun k hk e => by
    have := hL.lall k hk
    have := (h5.lt k e.symm).1
    have := hL.le
    omega)
  was := hS.was.grown hgr (fun k hk e => by
    have := hL.lwas k hk
    have := (h5.lt k e.symm).1
    omega)
  each q hq := (hS.each q hq).grown hgr (fun k hk e => (h5.low (Nat.le_trans hbase hL.le)).apart (hS.each q hq) k e.symm hk)
  eachU q hq := (hS.eachU q hq).grown hgr (fun k hk e => (h5.low hL.le).apart (hS.eachU q hq) k e.symm hk)
/-- While rows are written over: those that follow row i, and the copies. -/
structure Rest (w W : World) (base H n i : Nat) (all v3 : Value) (vs us : Nat → Value) (ls : Nat → List Int) : Prop where
  row : IsV W base all (rows n vs)
  was : IsV W H v3 (rows n us)
  each : ∀ q, i < q → q < n → Is W base (vs q) (ls q)
  eachU : ∀ q, q < n → Is W H (us q) (ls q)
  below : Below base w W
theorem Rest.drewN {w : World} (h : Rest w W base H n i all v3 vs us ls) (m : Nat) : Rest w (W.drewN m) base H n i all v3 vs us ls := ⟨h.row, h.was, h.each, h.eachU, pw_below_drewN h.below m⟩
theorem Rest.next {w : World} (h : Rest w W base H n i all v3 vs us ls) : Rest w W base H n (i + 1) all v3 vs us ls := ⟨h.row, h.was, fun q h1 h2 => h.each q (by omega) h2, h.eachU, h.below⟩
/-- Row i is stored into. -/
theorem Rest.set {w : World} {l : List Int} {gb k : Nat} {u : Value} (h : Rest w W base H n i all v3 vs us ls) (hL : Lie H H2 n all v3 vs us) (hi : i < n) (hbase : base ≤ H) (hv : (vs i).ownBlock = some gb) (hI : Is W base (vs i) l) : Rest w (W.setCell ⟨gb, k, none⟩ u) base H n i all v3 vs us ls where
  row := h.row.move (fun j hj => Below.heap_setCell _ _ _ _ (by rintro rfl; exact h.row.apart hI _ hj hv))
  was := h.was.move (fun j hj => Below.heap_setCell _ _ _ _ (by rintro rfl; exact (h.was.low hbase).apart hI _ hj hv))
  each q h1 h2 := (h.each q h1 h2).other (fun e => hL.un i q hi h2 (by omega) gb hv e) u
  eachU q hq := (h.eachU q hq).other (fun e => by
    have h1 := hL.lvs i hi gb hv
    have h2 := hL.lus q hq gb e
    omega) u
  below := h.below.setCell (hI.lt gb hv).1 u
theorem St.drewN (hS : St W base H n all v3 vs us ls) (m : Nat) : St (W.drewN m) base H n all v3 vs us ls := ⟨hS.row, hS.was, hS.each, hS.eachU⟩
end Go.Proofs.Ytglnepokollijaa.Apart
