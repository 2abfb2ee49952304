/- What is said here: an append to a row of bytes leaves the shorter row that it came from as it was. -/
import Derived.Test.YtengdchgfhcdhaaRow
import Derived.Test.YtengdchgfhcdhaaBlk
import Derived.ArgAppend
namespace Go.Proofs.Ytengdchgfhcdhaa.Row
set_option linter.unusedVariables false
set_option linter.unusedSimpArgs false
open Go.RowKit Go.Proofs.YtengdchgfhcdhaaW.PrintWords Go.Proofs.YtengdchgfhcdhaaW.PrintLast Go.Proofs.YtengdchgfhcdhaaW.PrintMore

/-- A row's first elements are a row. -/
theorem Is.take {W : World} {base g n c : Nat} {l m : List Int} (h : Is W base (.slice (some ⟨g, 0, none⟩) n c) (l ++ m)) : Is W base (.slice (some ⟨g, 0, none⟩) l.length c) l := by
  have hn := h.reads'.1
  have hR := h.R (fun _ => True) (fun _ _ => trivial)
  have h2 := Kd.R_take (m := l.length) hR (by simp)
  rw [List.take_left] at h2
  exact of_R h2
/-- A block's row has one room. -/
theorem Is.cap {W : World} {base g n c n' c' : Nat} {l l' : List Int} (h : Is W base (.slice (some ⟨g, 0, none⟩) n c) l) (h' : Is W base (.slice (some ⟨g, 0, none⟩) n' c') l') : c = c' := by
  rcases h.2 with ⟨e, _⟩ | ⟨_, _, cur, e, _, hg, _, _, h3, _⟩
  · cases e
  rcases h'.2 with ⟨e', _⟩ | ⟨_, _, cur', e', _, hg', _, _, h3', _⟩
  · cases e'
  injection e with e1 _ e3
  injection e' with e1' _ e3'
  injection e1 with e1
  injection e1 with e1
  injection e1' with e1'
  injection e1' with e1'
  subst e1
  subst e1'
  rw [hg] at hg'
  injection hg' with hg'
  injection hg' with hg' _ _
  subst hg'
  omega
section
variable {W : World} {ops : Array Oper} {Q : Exit → Act → World → Prop} {a : Act} {rest : List Oper} {o : Oper}
/-- An element is appended to the row g; the row v, whose bytes g began with, stays as it was. -/
theorem appendKeep (base : Nat) (s x : Operand) (v g : Value) (l m : List Int) (b : Int) (hgd : o.guard = none) (ho : o.op = .call { callee := .builtin .append, args := #[s, x], argTypes := #[22, 22] })
    (hs : a.eval s = g) (hx : a.eval x = .slice (some ⟨W.heap.size, 0, none⟩) 1 1) (HV : Is W base v l) (HG : Is W base g (l ++ m)) (hbase : base ≤ W.heap.size) (hl : (l ++ m).length ≤ 100000000000000)
    (h : ∀ g1 w1, Is w1 base v l → Is w1 base g1 (l ++ m ++ [b]) → Below base W w1 → W.grownBy w1 g.ownBlock → (g1.ownBlock = g.ownBlock ∨ ∃ k, g1.ownBlock = some k ∧ W.heap.size ≤ k) → wpList Try.prog ops Q rest (a.put o.dst g1) w1) :
    wpList Try.prog ops Q (o :: rest) a (W.alloc (.cells #[.int .u8 b] 5)) := by
  obtain ⟨i0, hi0, hz0, hsz0, hb0⟩ := info_parts infoB
  have HV' := HV.alloc (.cells #[.int .u8 b] 5)
  have HG' := HG.alloc (.cells #[.int .u8 b] 5)
  have hnew : ∀ j u, [Value.int .u8 b][j]? = some u → (W.alloc (.cells #[.int .u8 b] 5)).cell? ((⟨W.heap.size, 0, none⟩ : Addr).add j) = some u := by
    intro j u hj
    match j, hj with
    | 0, hj =>
      injection hj with hj
      subst hj
      have := Blk.Is.cell (Blk.Is.new W #[.int .u8 b] 5) 0
      exact this
    | j + 1, hj => simp at hj
  have h1c : ∀ u ∈ [Value.int .u8 b], u.oneCell' = true := by intro u hu; simp at hu; subst hu; rfl
  rcases HG.2 with ⟨e, e0⟩ | ⟨gb, cap, cur, e, hgb, hg, hc1, hc2, hc3, hc4⟩
  · have e1 : l ++ m = [] := List.eq_nil_of_length_eq_zero (by omega)
    subst e
    rw [e1] at h
    refine wpList_append_grows _ hgd s x 22 ho 5 i0 (.int .u8 0) 1 1 Try.underlying22 hi0 hz0 hsz0 hb0 rfl (by decide) none 0 0 [] hs (fun _ => ⟨rfl, rfl⟩) rfl (fun b hb => by cases hb) ⟨W.heap.size, 0, none⟩ 1 1 [Value.int .u8 b] hx rfl hnew h1c (by omega) (by decide) (by decide) ?_
    intro g1 w1 ho1 hg1
    have hB : Below base W w1 := ((Below.refl base W).alloc hbase _).grown hg1 (by simp; omega) (fun k e => by cases e)
    refine h g1 w1 (HV'.grown hg1 (fun k _ => by simp)) ?_ hB ⟨hB.os, hB.tape, hB.output, hB.size, fun k hk _ => (hg1.block k (by simp; omega) (by simp)).trans (Below.heap_alloc W _ k hk)⟩ (.inr ?_)
    · exact own_weaken (show Is w1 _ g1 ([] ++ [b]) from ho1) (by simp; omega)
    · have hlt := Is.lt (show Is w1 _ g1 ([] ++ [b]) from ho1)
      rcases ho1.2 with ⟨_, e0⟩ | ⟨k, _, _, e, hk, _⟩
      · omega
      · exact ⟨k, by rw [e]; rfl, Nat.le_trans (by simp) hk⟩
  · have hgv : g = .slice (some ⟨gb, 0, none⟩) (l ++ m).length cap := e
    have hgb2 : gb < W.heap.size := (HG.lt gb (by rw [e]; rfl)).2
    rw [e] at hs
    by_cases hf : (l ++ m).length + 1 ≤ cap
    · refine wpList_append_fits _ hgd s x 22 ho base 5 i0 1 Try.underlying22 hi0 hsz0 gb (l ++ m).length cap (encs (Value.int .u8) (l ++ m)) hs (by rw [← e]; exact HG') ⟨W.heap.size, 0, none⟩ 1 1 [Value.int .u8 b] hx rfl hnew h1c hf ?_
      intro w1 ho1 hg1
      have hI : Is w1 base (.slice (some ⟨gb, 0, none⟩) ((l ++ m).length + 1) cap) (l ++ m ++ [b]) := by
        unfold Is
        rw [encs_append, show (l ++ m ++ [b]).length = (l ++ m).length + 1 from List.length_append]
        exact ho1
      have hgr : W.grownBy w1 (some gb) := ⟨hg1.os, hg1.tape, hg1.output, Nat.le_trans (by simp) hg1.size, fun k hk hne => (hg1.block k (by simp; omega) hne).trans (Below.heap_alloc W _ k hk)⟩
      have hB : Below base W w1 := ⟨hgr.os, hgr.tape, hgr.output, hgr.size, fun k hk => hgr.block k (by omega) (fun e => by injection e; omega)⟩
      refine h _ w1 ?_ hI hB (by rw [hgv]; exact hgr) (.inl (by rw [hgv]; rfl))
      rcases HV.2 with ⟨ev, ev0⟩ | ⟨vb, vcap, vcur, ev, hvb, hv, _⟩
      · have : l = [] := List.eq_nil_of_length_eq_zero ev0
        rw [ev, this]
        exact Is.nil _ _
      · by_cases hsame : vb = gb
        · subst hsame
          have hcap : cap = vcap := Is.cap (by rw [← e]; exact HG) (by rw [← ev]; exact HV)
          rw [ev, ← hcap]
          rw [List.append_assoc] at hI
          exact hI.take
        · exact HV.grown hgr (fun k hk => by rw [ev] at hk; injection hk with hk; rw [← hk]; intro e; injection e with e; exact hsame e)
    · refine wpList_append_grows _ hgd s x 22 ho 5 i0 (.int .u8 0) 1 1 Try.underlying22 hi0 hz0 hsz0 hb0 rfl (by decide) (some ⟨gb, 0, none⟩) (l ++ m).length cap (encs (Value.int .u8) (l ++ m)) hs (fun h => by cases h) (by rw [encs_length, Nat.mul_one]) ?_ ⟨W.heap.size, 0, none⟩ 1 1 [Value.int .u8 b] hx rfl hnew h1c (by omega) (by unfold maxLen; omega) (by omega) ?_
      · intro ad had j u hj
        injection had with had
        subst had
        have hb2 : Blk.Is W gb cur 5 := hg
        have h3 := (hb2.alloc (.cells #[.int .u8 b] 5)).cell j
        have e2 : (⟨gb, 0, none⟩ : Addr).add j = ⟨gb, j, none⟩ := by rw [add_plain]
        rw [e2, h3]
        rw [← hc4, List.getElem?_take] at hj
        split at hj
        · rw [← hj, Array.getElem?_toList]
        · cases hj
      · intro g1 w1 ho1 hg1
        have hI : Is w1 (W.heap.size + 1) g1 (l ++ m ++ [b]) := by
          unfold Is
          rw [encs_append, show (l ++ m ++ [b]).length = (l ++ m).length + 1 from List.length_append]
          have : (W.alloc (.cells #[.int .u8 b] 5)).heap.size = W.heap.size + 1 := by simp
          rw [this] at ho1
          exact ho1
        have hgr : ∀ r, W.grownBy w1 r := fun r => ⟨hg1.os, hg1.tape, hg1.output, Nat.le_trans (by simp) hg1.size, fun k hk _ => (hg1.block k (by simp; omega) (by simp)).trans (Below.heap_alloc W _ k hk)⟩
        have hB : Below base W w1 := ⟨(hgr none).os, (hgr none).tape, (hgr none).output, (hgr none).size, fun k hk => (hgr none).block k (by omega) (by simp)⟩
        refine h g1 w1 (HV.grown (hgr none) (fun k _ => by simp)) (hI.lower (by omega)) hB (hgr _) (.inr ?_)
        rcases hI.2 with ⟨_, e0⟩ | ⟨k, _, _, e, hk, _⟩
        · simp at e0
        · exact ⟨k, by rw [e]; rfl, by omega⟩
end
end Go.Proofs.Ytengdchgfhcdhaa.Row
