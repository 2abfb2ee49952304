/- What is said here: rows of items that a call has made, and an item that was put is read as itself. -/
import Derived.Test.YtengdchgfhcdhaaGot
import Derived.Test.YtengdchgfhcdhaaPQx
namespace Go.Proofs.Ytengdchgfhcdhaa.Row
set_option linter.unusedVariables false
set_option linter.unusedSimpArgs false
open Go.RowKit Go.Proofs.YtengdchgfhcdhaaW.PrintWords Go.Proofs.YtengdchgfhcdhaaW.PrintLast Go.Proofs.YtengdchgfhcdhaaW.PrintMore

def cellsI (x : Int × Int × ByteArray) : List Value := [.int .i64 x.1, .int .u64 x.2.1, .string x.2.2]
/-- A row of items. -/
def IsI (W : World) (base : Nat) (v : Value) (xs : List (Int × Int × ByteArray)) : Prop := W.ownsRow base 59 3 v xs.length (xs.flatMap cellsI)
theorem infoI : (Try.prog.info? 59).map (fun i => (i.zero, i.size, i.bytes)) = some (some (.agg #[.int .i64 0, .int .u64 0, .string ⟨#[]⟩]), 3, 32) := by kernel_rfl
theorem flat_at (xs : List (Int × Int × ByteArray)) : ∀ (i : Nat) (h : i < xs.length) (j : Nat) (hj : j < 3), (xs.flatMap cellsI)[i * 3 + j]? = (cellsI xs[i])[j]? := by
  induction xs with
  | nil => intro i h; simp at h
  | cons x xs ih =>
    intro i h j hj
    rw [List.flatMap_cons]
    cases i with
    | zero =>
      rw [List.getElem?_append_left (by simp [cellsI]; omega), Nat.zero_mul, Nat.zero_add]
      rfl
    | succ i =>
      rw [List.getElem?_append_right (by simp [cellsI]; omega), show (i + 1) * 3 + j - (cellsI x).length = i * 3 + j by simp [cellsI]; omega, ih i (by simpa using h) j hj]
      rfl
theorem flat_length (xs : List (Int × Int × ByteArray)) : (xs.flatMap cellsI).length = xs.length * 3 := by
  induction xs with
  | nil => rfl
  | cons x xs ih => rw [List.flatMap_cons, List.length_append, ih]; simp [cellsI]; omega
variable {W W' : World} {base : Nat} {v : Value} {xs : List (Int × Int × ByteArray)}
theorem IsI.nil (W : World) (base : Nat) : IsI W base (.slice none 0 0) [] := own_nil W base _ _
theorem IsI.move (h : IsI W base v xs) (hm : ∀ k, v.ownBlock = some k → W'.heap[k]? = W.heap[k]?) : IsI W' base v xs := own_move h hm
theorem IsI.lt (h : IsI W base v xs) (k : Nat) (hk : v.ownBlock = some k) : base ≤ k ∧ k < W.heap.size := ⟨own_base h k hk, own_lt h k hk⟩
theorem IsI.below (h : IsI W base v xs) (hb : Below W.heap.size W W') : IsI W' base v xs := h.move (fun k hk => hb.block k (h.lt k hk).2)
theorem IsI.alloc (h : IsI W base v xs) (o : Obj) : IsI (W.alloc o) base v xs := h.move (fun k hk => Below.heap_alloc _ _ _ (h.lt k hk).2)
/-- Rows of items and rows of bytes share no block. -/
theorem IsI.apart {u : Value} {l : List Int} (h : IsI W base v xs) (h' : Is W base u l) (k : Nat) (hk : v.ownBlock = some k) (hk' : u.ownBlock = some k) : False := by
  rcases h.2 with ⟨e, _⟩ | ⟨g, c, cur, e, _, hg, _⟩
  · rw [e] at hk; cases hk
  rcases h'.2 with ⟨e', _⟩ | ⟨g', c', cur', e', _, hg', _⟩
  · rw [e'] at hk'; cases hk'
  rw [e] at hk
  rw [e'] at hk'
  injection hk with hk
  injection hk' with hk'
  subst hk
  subst hk'
  rw [hg] at hg'
  injection hg' with hg'
  injection hg' with _ ht _
  exact absurd ht (by decide)
theorem IsI.shape (h : IsI W base v xs) : (v = .slice none 0 0 ∧ xs = []) ∨ ∃ g c, v = .slice (some ⟨g, 0, none⟩) xs.length c ∧ xs.length ≤ c ∧ c ≤ maxLen ∧ base ≤ g ∧ ∀ (i : Nat) (hi : i < xs.length), W.cell? ⟨g, i * 3, none⟩ = some (.int .i64 xs[i].1) ∧ W.cell? ⟨g, i * 3 + 1, none⟩ = some (.int .u64 xs[i].2.1) ∧ W.cell? ⟨g, i * 3 + 2, none⟩ = some (.string xs[i].2.2) := by
  rcases h.2 with ⟨e, h0⟩ | ⟨g, c, cur, e, hb, hg, h1, h2, _, h4⟩
  · exact Or.inl ⟨e, List.eq_nil_of_length_eq_zero h0⟩
  · refine Or.inr ⟨g, c, e, h1, h2, hb, fun i hi => ?_⟩
    have hB : Blk.Is W g cur 59 := hg
    have hc : ∀ j, j < 3 → W.cell? ⟨g, i * 3 + j, none⟩ = (cellsI xs[i])[j]? := by
      intro j hj
      rw [hB.cell, ← flat_at xs i hi j hj, ← h4, List.getElem?_take, if_pos (by omega), Array.getElem?_toList]
    exact ⟨hc 0 (by omega), hc 1 (by omega), hc 2 (by omega)⟩
section
variable {ops : Array Oper} {Q : Exit → Act → World → Prop} {a : Act} {rest : List Oper} {o : Oper}
/-- An item is appended. -/
theorem appendI (base : Nat) (s x : Operand) (v : Value) (y : Int × Int × ByteArray) (xs : List (Int × Int × ByteArray)) (hgd : o.guard = none) (ho : o.op = .call { callee := .builtin .append, args := #[s, x], argTypes := #[57, 57] })
    (hs : a.eval s = v) {c0 c1 c2 : Value} (e0 : c0 = .int .i64 y.1) (e1 : c1 = .int .u64 y.2.1) (e2 : c2 = .string y.2.2) (hx : a.eval x = .slice (some ⟨W.heap.size, 0, none⟩) 1 1) (HO : IsI W base v xs) (hbase : base ≤ W.heap.size) (hl : xs.length ≤ 1000000000)
    (h : ∀ v1 w1, IsI w1 base v1 (xs ++ [y]) → Below base W w1 → W.grownBy w1 v.ownBlock → wpList Try.prog ops Q rest (a.put o.dst v1) w1) :
    wpList Try.prog ops Q (o :: rest) a (W.alloc (.cells #[c0, c1, c2] 59)) := by
  subst e0 e1 e2
  obtain ⟨i0, hi0, hz0, hsz0, hb0⟩ := info_parts infoI
  have hnew : ∀ j u', (cellsI y)[j]? = some u' → (W.alloc (.cells #[.int .i64 y.1, .int .u64 y.2.1, .string y.2.2] 59)).cell? ((⟨W.heap.size, 0, none⟩ : Addr).add j) = some u' := by
    intro j u' hj
    have hc := fun j => Blk.Is.cell (Blk.Is.new W #[.int .i64 y.1, .int .u64 y.2.1, .string y.2.2] 59) j
    match j, hj with
    | 0, hj => exact (hc 0).trans hj
    | 1, hj => exact (hc 1).trans hj
    | 2, hj => exact (hc 2).trans hj
    | j + 3, hj => simp [cellsI] at hj
  refine wpList_append_own _ hgd s x 57 ho base 59 i0 _ 3 32 Try.underlying57 hi0 hz0 hsz0 hb0 rfl (by decide) v xs.length (xs.flatMap cellsI) hs (HO.alloc _) ⟨W.heap.size, 0, none⟩ 1 1 (cellsI y) hx rfl hnew (by intro u' hu'; simp [cellsI] at hu'; rcases hu' with rfl | rfl | rfl <;> rfl) (by unfold maxLen; omega) (by omega) (by simp; omega) ?_
  intro v1 w1 ho1 hg1 _
  have hgr : W.grownBy w1 v.ownBlock := ⟨hg1.os, hg1.tape, hg1.output, Nat.le_trans (by simp) hg1.size, fun k hk hne => (hg1.block k (by simp; omega) hne).trans (Below.heap_alloc W _ k hk)⟩
  refine h v1 w1 ?_ ⟨hgr.os, hgr.tape, hgr.output, hgr.size, fun k hk => hgr.block k (by omega) (fun e => by have := (HO.lt k e.symm).1; omega)⟩ hgr
  unfold IsI
  rw [List.length_append, List.flatMap_append, show [y].flatMap cellsI = cellsI y by simp]
  exact ho1
end
end Go.Proofs.Ytengdchgfhcdhaa.Row
namespace Go.Proofs.Ytengdchgfhcdhaa.Got
set_option linter.unusedVariables false
open Go.RowKit Go.Proofs.YtengdchgfhcdhaaW.PrintWords Go.Proofs.YtengdchgfhcdhaaW.PrintLast Go.Proofs.YtengdchgfhcdhaaW.PrintMore
open PureBack

theorem got_item (g base : Nat) (A : Option Addr) (c : Nat) (s : Reader.St) (k v : Int) (t : ByteArray) (w : World) (h : Reader.Is w base g A c s) (rest : List Int) (hb : Before s (itemL k v t) rest) (hv : 0 ≤ v) (hv2 : v < 18446744073709551616) (ht : t.size < 65536) :
    Calls Try.prog 34 #[.pointer (some ⟨g, 0, none⟩), .agg #[.int .i64 k, .int .u64 v, .string t]] w fun e w' => e = .returned (.bool true) ∧ Reader.Is w' base g A c (St.on s (itemL k v t).length) ∧ Reader.Only g w w' := by
  by_cases h1 : k.tmod 5 = 1
  · have e : itemL k v t = Put.be (v % 65536) 2 := by unfold itemL; rw [if_pos h1]
    rw [e] at hb ⊢
    obtain ⟨f1, f2, _⟩ := hb.take 2 (by rw [Put.be_length]; rfl)
    have := gotU16 g base A c s k v t w h (by rw [f1, num_be 2 _ (by omega) (by omega), IntKind.wrap_u16]; omega) h1
    rw [f2] at this
    exact this
  by_cases h2 : k.tmod 5 = 2
  · have e : itemL k v t = Put.be (v % 4294967296) 4 := by unfold itemL; rw [if_neg h1, if_pos h2]
    rw [e] at hb ⊢
    obtain ⟨f1, f2, _⟩ := hb.take 4 (by rw [Put.be_length]; rfl)
    have := gotU32 g base A c s k v t w h (by rw [f1, num_be 4 _ (by omega) (by omega), IntKind.wrap_u32]; omega) h2
    rw [f2] at this
    exact this
  by_cases h3 : k.tmod 5 = 3
  · have e : itemL k v t = Put.be v 8 := by unfold itemL; rw [if_neg h1, if_neg h2, if_pos h3]
    rw [e] at hb ⊢
    obtain ⟨f1, f2, _⟩ := hb.take 8 (by rw [Put.be_length]; rfl)
    have := gotU64 g base A c s k v t w h (by rw [f1, num_be 8 _ (by omega) (by omega)]; exact Int.emod_eq_of_lt hv (Int.lt_of_lt_of_le hv2 (by decide))) h3
    rw [f2] at this
    exact this
  by_cases h4 : k.tmod 5 = 4
  · have e : itemL k v t = Put.be (bytesOf t).length 2 ++ bytesOf t := by unfold itemL; rw [if_neg h1, if_neg h2, if_neg h3, if_pos h4, bytesOf_length]
    rw [e] at hb ⊢
    obtain ⟨f1, f2⟩ := text_of hb (by rw [bytesOf_length]; omega)
    have := gotText g base A c s k v t w h (by rw [f1, Str.str_bytesOf]) h4
    rw [f2] at this
    rw [List.length_append, Put.be_length]
    exact this
  · have e : itemL k v t = [v % 256] := by unfold itemL; rw [if_neg h1, if_neg h2, if_neg h3, if_neg h4]
    rw [e] at hb ⊢
    obtain ⟨f1, f2, _⟩ := hb.take 1 rfl
    have hn : Reader.num [v % 256] = v % 256 := by
      have := num_be 1 (v % 256) (by omega) (by omega)
      rw [show Put.be (v % 256) 1 = [v % 256] by simp [Put.be]] at this
      rw [this]
      omega
    have := gotU8 g base A c s k v t w h (by rw [f1, hn, IntKind.wrap_u8]; omega) h1 h2 h3 h4
    rw [f2] at this
    exact this

/-- What put answers. -/
theorem put_f (l : List Int) (k v : Int) (t : ByteArray) (hl : l.length ≤ 100000000) (hv : 0 ≤ v) (hv2 : v < 18446744073709551616) (ht : t.size < 65536) : PQ.ciboriumlaw01_put.f l k v t = some (l ++ itemL k v t, true) := by
  unfold PQ.ciboriumlaw01_put.f
  by_cases h1 : k.tmod 5 = 1
  · have e : itemL k v t = Put.be (v % 65536) 2 := by unfold itemL; rw [if_pos h1]
    have : PQ.octet_Put16.f l (IntKind.u16.wrap v) = some (l ++ Put.be (v % 65536) 2) := by
      show Put.P16.f l _ = _
      rw [Put.P16.f, IntKind.wrap_u16, if_pos (by omega)]
    rw [if_pos h1, this, e]
    rfl
  by_cases h2 : k.tmod 5 = 2
  · have e : itemL k v t = Put.be (v % 4294967296) 4 := by unfold itemL; rw [if_neg h1, if_pos h2]
    have : PQ.octet_Put32.f l (v % 4294967296) = some (l ++ Put.be (v % 4294967296) 4) := by
      show Put.P32.f l _ = _
      rw [Put.P32.f, if_pos (by omega)]
    rw [if_neg h1, if_pos h2, this, e]
    rfl
  by_cases h3 : k.tmod 5 = 3
  · have e : itemL k v t = Put.be v 8 := by unfold itemL; rw [if_neg h1, if_neg h2, if_pos h3]
    have : PQ.octet_Put64.f l v = some (l ++ Put.be v 8) := by
      show Put.P64.f l _ = _
      rw [Put.P64.f, if_pos (by omega)]
    rw [if_neg h1, if_neg h2, if_pos h3, this, e]
    rfl
  by_cases h4 : k.tmod 5 = 4
  · have e : itemL k v t = Put.be t.size 2 ++ bytesOf t := by unfold itemL; rw [if_neg h1, if_neg h2, if_neg h3, if_pos h4]
    have e2 : IntKind.u16.wrap ((t.size : Int)) = (t.size : Int) := by rw [IntKind.wrap_u16]; omega
    have : PQ.octet_PutText.f l t = some (l ++ (Put.be t.size 2 ++ bytesOf t), 0) := by
      have h16 : PQ.octet_Put16.f l (t.size : Int) = some (l ++ Put.be (t.size : Int) 2) := by
        show Put.P16.f l _ = _
        rw [Put.P16.f, if_pos (by omega)]
      unfold PQ.octet_PutText.f
      rw [if_neg (by omega), e2, h16, Option.bind_some, if_pos (by rw [List.length_append, Put.be_length]; omega), List.append_assoc]
    rw [if_neg h1, if_neg h2, if_neg h3, if_pos h4, this, e]
    rfl
  · have e : itemL k v t = [v % 256] := by unfold itemL; rw [if_neg h1, if_neg h2, if_neg h3, if_neg h4]
    have : PQ.ciboriumref00_CopyBytes.f l = some l := by
      unfold PQ.ciboriumref00_CopyBytes.f
      rw [if_pos (by simp; omega)]
      rfl
    rw [if_neg h1, if_neg h2, if_neg h3, if_neg h4, this, e, Option.bind_some, Option.bind_some, if_pos (by simp; omega)]
end Go.Proofs.Ytengdchgfhcdhaa.Got
