/- What is said here: rows of slices of bytes that a call has made: appended to, read; they share no block with rows of bytes. -/
import Derived.Test.YtengdchgfhcdhaaApart1
namespace Go.Proofs.Ytengdchgfhcdhaa.Row
set_option linter.unusedVariables false
set_option linter.unusedSimpArgs false
open Go.RowKit Go.Proofs.YtengdchgfhcdhaaW.PrintWords Go.Proofs.YtengdchgfhcdhaaW.PrintLast Go.Proofs.YtengdchgfhcdhaaW.PrintMore

/-- A row of slices (the values themselves). -/
def IsV (W : World) (base : Nat) (v : Value) (vs : List Value) : Prop := W.ownsRow base 22 1 v vs.length vs
theorem infoV : (Try.prog.info? 22).map (fun i => (i.zero, i.size, i.bytes)) = some (some (.slice none 0 0), 1, 24) := by kernel_rfl
variable {W W' : World} {base : Nat} {v : Value} {vs : List Value}
theorem IsV.nil (W : World) (base : Nat) : IsV W base (.slice none 0 0) [] := own_nil W base _ _
theorem IsV.move (h : IsV W base v vs) (hm : ∀ k, v.ownBlock = some k → W'.heap[k]? = W.heap[k]?) : IsV W' base v vs := own_move h hm
theorem IsV.lt (h : IsV W base v vs) (k : Nat) (hk : v.ownBlock = some k) : base ≤ k ∧ k < W.heap.size := ⟨own_base h k hk, own_lt h k hk⟩
theorem IsV.below (h : IsV W base v vs) (hb : Below W.heap.size W W') : IsV W' base v vs := h.move (fun k hk => hb.block k (h.lt k hk).2)
theorem IsV.grown (h : IsV W base v vs) {row : Option Nat} (hg : W.grownBy W' row) (hne : ∀ k, v.ownBlock = some k → some k ≠ row) : IsV W' base v vs := h.move (fun k hk => hg.block k (h.lt k hk).2 (hne k hk))
theorem IsV.alloc (h : IsV W base v vs) (o : Obj) : IsV (W.alloc o) base v vs := h.move (fun k hk => Below.heap_alloc _ _ _ (h.lt k hk).2)
/-- Rows of slices and rows of bytes share no block. -/
theorem IsV.apart {u : Value} {l : List Int} (h : IsV W base v vs) (h' : Is W base u l) (k : Nat) (hk : v.ownBlock = some k) (hk' : u.ownBlock = some k) : False := by
  rcases h.2 with ⟨e, _⟩ | ⟨g, c, cur, e, _, hg, _⟩
  · rw [e] at hk; cases hk
  rcases h'.2 with ⟨e', _⟩ | ⟨g', c', cur', e', _, hg', _⟩
  · rw [e'] at hk'; cases hk'
  rw [e] at hk
  rw [e'] at hk'
  injection hk with hk
  injection hk' with hk'
  subst hk
  subst hk'
  rw [hg] at hg'
  injection hg' with hg'
  injection hg' with _ ht _
  exact absurd ht (by decide)
/-- Element i. -/
theorem IsV.cell {g n c : Nat} (h : IsV W base (.slice (some ⟨g, 0, none⟩) n c) vs) (i : Nat) (hi : i < vs.length) : W.cell? ⟨g, i, none⟩ = some vs[i] := by
  rcases h.2 with ⟨e, _⟩ | ⟨g', c', cur, e, _, hg, _, _, _, h4⟩
  · cases e
  injection e with e _ _
  injection e with e
  injection e with e
  subst e
  have hb : Blk.Is W g cur 22 := hg
  rw [hb.cell i]
  have : (cur.toList.take (vs.length * 1))[i]? = some vs[i] := by rw [h4]; exact List.getElem?_eq_getElem hi
  rw [List.getElem?_take] at this
  split at this
  · rwa [Array.getElem?_toList] at this
  · cases this
/-- What it looks like. -/
theorem IsV.shape (h : IsV W base v vs) (hv : 0 < vs.length) : ∃ g c, v = .slice (some ⟨g, 0, none⟩) vs.length c ∧ vs.length ≤ c ∧ c ≤ maxLen ∧ base ≤ g := by
  rcases h.2 with ⟨_, h⟩ | ⟨g, c, cur, e, hb, _, h1, h2, _⟩
  · omega
  · exact ⟨g, c, e, h1, h2, hb⟩
section
variable {ops : Array Oper} {Q : Exit → Act → World → Prop} {a : Act} {rest : List Oper} {o : Oper}
/-- A slice is appended. -/
theorem appendV (base : Nat) (s x : Operand) (v u : Value) (vs : List Value) (hgd : o.guard = none) (ho : o.op = .call { callee := .builtin .append, args := #[s, x], argTypes := #[37, 37] })
    (hs : a.eval s = v) (hx : a.eval x = .slice (some ⟨W.heap.size, 0, none⟩) 1 1) (HO : IsV W base v vs) (hu : u.oneCell' = true) (hbase : base ≤ W.heap.size) (hl : vs.length ≤ 1000000000)
    (h : ∀ v1 w1, IsV w1 base v1 (vs ++ [u]) → Below base W w1 → W.grownBy w1 v.ownBlock → wpList Try.prog ops Q rest (a.put o.dst v1) w1) :
    wpList Try.prog ops Q (o :: rest) a (W.alloc (.cells #[u] 22)) := by
  obtain ⟨i0, hi0, hz0, hsz0, hb0⟩ := info_parts infoV
  have hnew : ∀ j u', [u][j]? = some u' → (W.alloc (.cells #[u] 22)).cell? ((⟨W.heap.size, 0, none⟩ : Addr).add j) = some u' := by
    intro j u' hj
    match j, hj with
    | 0, hj =>
      injection hj with hj
      subst hj
      exact Blk.Is.cell (Blk.Is.new W #[u] 22) 0
    | j + 1, hj => simp at hj
  refine wpList_append_own _ hgd s x 37 ho base 22 i0 (.slice none 0 0) 1 24 Try.underlying37 hi0 hz0 hsz0 hb0 rfl (by decide) v vs.length vs hs (HO.alloc _) ⟨W.heap.size, 0, none⟩ 1 1 [u] hx rfl hnew (by intro u' hu'; simp at hu'; subst hu'; exact hu) (by unfold maxLen; omega) (by omega) (by simp; omega) ?_
  intro v1 w1 ho1 hg1 _
  have hgr : W.grownBy w1 v.ownBlock := ⟨hg1.os, hg1.tape, hg1.output, Nat.le_trans (by simp) hg1.size, fun k hk hne => (hg1.block k (by simp; omega) hne).trans (Below.heap_alloc W _ k hk)⟩
  refine h v1 w1 ?_ ⟨hgr.os, hgr.tape, hgr.output, hgr.size, fun k hk => hgr.block k (by omega) (fun e => by have := (HO.lt k e.symm).1; omega)⟩ hgr
  unfold IsV
  rw [List.length_append]
  exact ho1
end
end Go.Proofs.Ytengdchgfhcdhaa.Row
