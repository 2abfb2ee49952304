/- What is said here: rows of bytes that a call has made: appended to, made, copied into, stored into. It speaks of this translation's types alone. -/
import Derived.Test.YtbebmbcjddibaaaPAx0
import Derived.Laws.CopyOwn
import Derived.Lib.Hide
import Derived.Outline
namespace Go.Proofs.Ytbebmbcjddibaaa.Row
set_option linter.unusedVariables false
set_option linter.unusedSimpArgs false
open Go.RowKit Go.Proofs.YtbebmbcjddibaaaW.PrintWords Go.Proofs.YtbebmbcjddibaaaW.PrintLast Go.Proofs.YtbebmbcjddibaaaW.PrintMore

/-- A row of bytes of the call's own. -/
def Is (W : World) (base : Nat) (v : Value) (l : List Int) : Prop := W.ownsRow base 5 1 v l.length (encs (Value.int .u8) l)
theorem infoB : (Try.prog.info? 5).map (fun i => (i.zero, i.size, i.bytes)) = some (some (.int .u8 0), 1, 1) := by kernel_rfl
variable {W W' : World} {base : Nat} {v : Value} {l : List Int}
theorem Is.nil (W : World) (base : Nat) : Is W base (.slice none 0 0) [] := own_nil W base _ _
theorem Is.move (h : Is W base v l) (hm : ∀ k, v.ownBlock = some k → W'.heap[k]? = W.heap[k]?) : Is W' base v l := own_move h hm
theorem Is.lt (h : Is W base v l) (k : Nat) (hk : v.ownBlock = some k) : base ≤ k ∧ k < W.heap.size := ⟨own_base h k hk, own_lt h k hk⟩
theorem Is.below (h : Is W base v l) (hb : Below W.heap.size W W') : Is W' base v l := h.move (fun k hk => hb.block k (h.lt k hk).2)
theorem Is.grown (h : Is W base v l) {row : Option Nat} (hg : W.grownBy W' row) (hne : ∀ k, v.ownBlock = some k → some k ≠ row) : Is W' base v l := h.move (fun k hk => hg.block k (h.lt k hk).2 (hne k hk))
theorem Is.drewN (h : Is W base v l) (n : Nat) : Is (W.drewN n) base v l := h
theorem Is.alloc (h : Is W base v l) (o : Obj) : Is (W.alloc o) base v l := h.move (fun k hk => Below.heap_alloc _ _ _ (h.lt k hk).2)
theorem Is.lower (h : Is W base v l) {b : Nat} (hb : b ≤ base) : Is W b v l := own_weaken h hb
theorem Is.other (h : Is W base v l) {a : Addr} (ha : v.ownBlock ≠ some a.block) (u : Value) : Is (W.setCell a u) base v l := h.move (fun k hk => Below.heap_setCell _ _ _ _ (fun e => ha (by rw [hk, e])))
theorem Is.R (h : Is W base v l) (ok : Nat → Prop) (hok : ∀ k, v.ownBlock = some k → ok k) : Kd.R (Kd.int .u8) 5 W base ok v l := ⟨hok, encs (Value.int .u8) l, h, Kd.reps_scalar l⟩
theorem of_R {ok : Nat → Prop} (h : Kd.R (Kd.int .u8) 5 W base ok v l) : Is W base v l := by
  obtain ⟨_, inner, ho, hr⟩ := h
  have : inner = encs (Value.int .u8) l := Kd.reps_encs hr
  subst this
  exact ho
theorem Is.reads (h : Is W base v l) : ∃ A c, v = .slice A l.length c ∧ l.length ≤ c ∧ Kd.C (Kd.int .u8) W A l.length l := Kd.R_reads (h.R (fun _ => True) (fun _ _ => trivial))
theorem Is.reads' {A : Option Addr} {n c : Nat} (h : Is W base (.slice A n c) l) : n = l.length ∧ n ≤ c ∧ Kd.C (Kd.int .u8) W A l.length l := Kd.R_reads' (h.R (fun _ => True) (fun _ _ => trivial))
/-- A row with an element stands at a block's head. -/
theorem Is.head {A : Option Addr} {n c : Nat} (h : Is W base (.slice A n c) l) (hl : 0 < l.length) : ∃ g, A = some ⟨g, 0, none⟩ ∧ base ≤ g := by
  rcases h.2 with ⟨_, h⟩ | ⟨g, cap, cur, e, hg, _⟩
  · omega
  · injection e with e
    exact ⟨g, e, hg⟩
theorem Is.max {A : Option Addr} {n c : Nat} (h : Is W base (.slice A n c) l) : l.length ≤ c ∧ c ≤ 9223372036854775807 := by
  rcases h.2 with ⟨e, h⟩ | ⟨g, cap, cur, e, _, _, h1, h2, _⟩
  · injection e with _ _ e
    omega
  · injection e with _ _ e
    unfold maxLen at h2
    omega
/-- Element i. -/
theorem Is.cell {g n c : Nat} (h : Is W base (.slice (some ⟨g, 0, none⟩) n c) l) (i : Nat) (hi : i < l.length) : W.cell? ⟨g, i, none⟩ = some (.int .u8 (l.getD i 0)) ∧ W.frozen? ⟨g, i, none⟩ = false := by
  have hn := h.reads'.1
  have h' : W.ownsRow base 5 1 (.slice (some ⟨g, 0, none⟩) n c) n (encs (Value.int .u8) l) := by
    have := h
    unfold Is at this
    rwa [← hn] at this
  have := own_at_of (d := (0 : Int)) h' (i : Int) (by omega) (by omega)
  rw [Int.toNat_natCast] at this
  refine ⟨this.1.trans ?_, this.2⟩
  show some (Value.int .u8 (l.getD (i : Int).toNat 0)) = _
  rw [Int.toNat_natCast]
/-- Element i, stored. -/
theorem Is.store {g n c : Nat} (h : Is W base (.slice (some ⟨g, 0, none⟩) n c) l) (i : Nat) (x : Int) : Is (W.setCell ⟨g, i, none⟩ (.int .u8 x)) base (.slice (some ⟨g, 0, none⟩) n c) (l.set i x) := by
  have hn := h.reads'.1
  have h' : W.ownsRow base 5 1 (.slice (some ⟨g, 0, none⟩) n c) n (encs (Value.int .u8) l) := by
    have := h
    unfold Is at this
    rwa [← hn] at this
  have := (own_store_of h' (i : Int) x).1
  rw [Int.toNat_natCast] at this
  unfold Is
  rw [List.length_set, ← hn]
  exact this

section
variable {ops : Array Oper} {Q : Exit → Act → World → Prop} {a : Act} {rest : List Oper} {o : Oper}
/-- An element is appended. -/
theorem append (base : Nat) (s x : Operand) (v : Value) (l : List Int) (b : Int) (hgd : o.guard = none) (ho : o.op = .call { callee := .builtin .append, args := #[s, x], argTypes := #[24, 24] })
    (hs : a.eval s = v) {m : Nat} (hx : a.eval x = .slice (some ⟨m, 0, none⟩) 1 1) (hm : m = W.heap.size) (HO : Is W base v l) (hbase : base ≤ W.heap.size) (hl : l.length ≤ 100000000000000)
    (h : ∀ v1 w1, Is w1 base v1 (l ++ [b]) → Below base W w1 → W.grownBy w1 v.ownBlock → (v1.ownBlock = v.ownBlock ∨ ∃ b, v1.ownBlock = some b ∧ W.heap.size ≤ b) → wpList Try.prog ops Q rest (a.put o.dst v1) w1) :
    wpList Try.prog ops Q (o :: rest) a (W.alloc (.cells #[.int .u8 b] 5)) := by
  subst hm
  refine Kd.R_append (Kd.int .u8) (w0 := W) base hgd s x 24 5 (.int .u8 0) 1 ho Try.underlying24 infoB rfl (by decide) (by omega) v l b [.int .u8 b] (fun _ => True) (fun _ => False) hs hx rfl (fun _ hk => hk.elim) (fun _ _ => trivial) (HO.R _ (fun _ _ => trivial)) (Below.refl _ _) hbase (by omega) ?_
  intro v1 w1 h1 h2 h3 h4
  exact h v1 w1 (of_R h1) h2 h3 h4
/-- The bytes of a row are appended. -/
theorem appendRow (base : Nat) (s x : Operand) (v : Value) (l : List Int) (A : Option Addr) (m c : Nat) (ys : List Int) (hgd : o.guard = none) (ho : o.op = .call { callee := .builtin .append, args := #[s, x], argTypes := #[24, 24] })
    (hs : a.eval s = v) (hx : a.eval x = .slice A m c) (hm : m = ys.length) (HO : Is W base v l) (HR : Kd.C (Kd.int .u8) W A ys.length ys) (hbase : base ≤ W.heap.size) (hl : l.length + ys.length ≤ 100000000000000)
    (h : ∀ v1 w1, Is w1 base v1 (l ++ ys) → Below base W w1 → W.grownBy w1 v.ownBlock → (v1.ownBlock = v.ownBlock ∨ ∃ b, v1.ownBlock = some b ∧ W.heap.size ≤ b) → wpList Try.prog ops Q rest (a.put o.dst v1) w1) :
    wpList Try.prog ops Q (o :: rest) a W := by
  subst hm
  refine Kd.R_append_rows (Kd.int .u8) (w0 := W) base hgd s x 24 5 (.int .u8 0) 1 ho Try.underlying24 infoB rfl (by decide) (by omega) v l ys A ys.length c (fun _ => True) (fun _ => False) hs hx (HO.R _ (fun _ _ => trivial)) HR (fun _ _ h => h) (fun _ hk => hk.elim) (fun _ _ => trivial) (Below.refl _ _) hbase (by omega) ?_
  intro v1 w1 h1 h2 h3 h4
  exact h v1 w1 (of_R h1) h2 h3 h4
/-- The bytes of a row are appended, in a region that draws its order. -/
theorem appendStep {Kc : Act → World → Prop} (base : Nat) (s x : Operand) (v : Value) (l : List Int) (A : Option Addr) (m c : Nat) (ys : List Int) (hw : Region.wanted o (yielded ops a.tmps) = true) (ho : o.op = .call { callee := .builtin .append, args := #[s, x], argTypes := #[24, 24] })
    (hs : a.eval s = v) (hx : a.eval x = .slice A m c) (hm : m = ys.length) (HO : Is W base v l) (HR : Kd.C (Kd.int .u8) W A ys.length ys) (hbase : base ≤ W.heap.size) (hl : l.length + ys.length ≤ 100000000000000)
    (h : ∀ v1 w1, Is w1 base v1 (l ++ ys) → Below base W w1 → W.grownBy w1 v.ownBlock → (v1.ownBlock = v.ownBlock ∨ ∃ b, v1.ownBlock = some b ∧ W.heap.size ≤ b) → Kc (a.put o.dst v1) w1) :
    if Region.wanted o (yielded ops a.tmps) = true then Oper.wp Try.prog o a W Kc Q else Kc (a.put o.dst undef) W := by
  subst hm
  refine Kd.R_append_rows_step (Kd.int .u8) (w0 := W) base hw s x 24 5 (.int .u8 0) 1 ho Try.underlying24 infoB rfl (by decide) (by omega) v l ys A ys.length c (fun _ => True) (fun _ => False) hs hx (HO.R _ (fun _ _ => trivial)) HR (fun _ _ h => h) (fun _ hk => hk.elim) (fun _ _ => trivial) (Below.refl _ _) hbase (by omega) ?_
  intro v1 w1 h1 h2 h3 h4
  exact h v1 w1 (of_R h1) h2 h3 h4
/-- A row of noughts is made. -/
theorem make (x y : Operand) (n : Nat) (hgd : o.guard = none) (ho : o.op = .makeSlice 24 x y) (hx : a.eval x = .int .i64 (n : Int)) (hy : a.eval y = .int .i64 (n : Int)) (hn : n ≤ 140737488351232)
    (h : ∀ w1, Is w1 W.heap.size (.slice (some ⟨W.heap.size, 0, none⟩) n n) (List.replicate n 0) → W.grownBy w1 none → wpList Try.prog ops Q rest (a.put o.dst (.slice (some ⟨W.heap.size, 0, none⟩) n n)) w1) :
    wpList Try.prog ops Q (o :: rest) a W := by
  obtain ⟨i0, hi0, hz0, hsz0, hb0⟩ := info_parts infoB
  refine wpList_make_full W hgd x y 24 ho W.heap.size 5 i0 (.int .u8 0) 1 Try.underlying24 hi0 hz0 hsz0 .i64 .i64 n n n hx hy rfl rfl (by rw [hb0]; omega) (by unfold maxLen; omega) (Nat.le_refl _) ?_
  intro w1 h1 h2
  refine h w1 ?_ h2
  unfold Is
  have e : (madeCells (Value.int .u8 0).cells (n * 1)).toList = encs (Value.int .u8) (List.replicate n 0) := by
    apply List.ext_getElem
    · simp [madeCells, encs]
    · intro i h1 h2
      simp [madeCells, encs, Value.cells, Nat.mod_one]
  rw [e] at h1
  rw [List.length_replicate]
  exact h1
/-- Bytes are copied over a row's first ones. -/
theorem copy (d s : Operand) (g n c : Nat) (l : List Int) (A : Option Addr) (m cs : Nat) (src : List Int) (hgd : o.guard = none) (ho : o.op = .call { callee := .builtin .copy, args := #[d, s], argTypes := #[24, 24] })
    (hd : a.eval d = .slice (some ⟨g, 0, none⟩) n c) (hs : a.eval s = .slice A m cs) (HO : Is W base (.slice (some ⟨g, 0, none⟩) n c) l) (HR : Kd.C (Kd.int .u8) W A src.length src) (hm : m = src.length) (hle : src.length ≤ l.length)
    (h : ∀ w1, Is w1 base (.slice (some ⟨g, 0, none⟩) n c) (src ++ l.drop src.length) → Below g W w1 → wpList Try.prog ops Q rest (a.put o.dst (goInt src.length)) w1) :
    wpList Try.prog ops Q (o :: rest) a W := by
  subst hm
  rcases HO.2 with ⟨e, _⟩ | ⟨g', cap, cur, e, hb, hg, h1, h2, h3, h4⟩
  · cases e
  · injection e with e1 e2 e3
    injection e1 with e1
    injection e1 with e1
    subst e1
    subst e2
    subst e3
    rw [Nat.mul_one] at h3 h4
    have hcl : cur.toList.length = c := by rw [Array.length_toList]; exact h3
    have hsz : (Try.prog.info? 5).map (·.size) = some 1 := by
      obtain ⟨i0, hi0, hz0, hsz0, hb0⟩ := info_parts infoB
      rw [hi0, Option.map_some, hsz0]
    refine wpList_copy_splice hgd d s 24 24 ho 5 Try.underlying24 hsz (some ⟨g, 0, none⟩) A l.length c src.length cs hd hs g 0 cur.toList 5 (by rw [Array.toArray_toList]; exact hg) (encs (Value.int .u8) src) ?_ ?_ ?_ ?_ g W (Below.refl _ _) (Nat.le_refl _) ?_
    · rw [encs_length]
      exact (Nat.min_eq_left hle).symm
    · intro hp
      rw [encs_length] at hp
      refine ⟨rfl, ?_⟩
      obtain ⟨ad, ea, hc⟩ := HR.2.2 hp
      refine ⟨ad, ea, fun j u hj => ?_⟩
      have hjl : j < src.length := by have := (List.getElem?_eq_some_iff.1 hj).1; rwa [encs_length] at this
      obtain ⟨ds, hd1, hd2, hd3⟩ := hc j _ (List.getElem?_eq_getElem hjl)
      have hds : ds = [Value.int .u8 src[j]] := hd2
      subst hds
      have hu : u = Value.int .u8 src[j] := by
        unfold encs at hj
        rw [List.getElem?_map, List.getElem?_eq_getElem hjl, Option.map_some] at hj
        injection hj with hj
        exact hj.symm
      have h4 : W.cell? (ad.add (j * 1 + 0)) = some (Value.int .u8 src[j]) := hd3 0 _ rfl
      rw [hu]
      rwa [Nat.mul_one, Nat.add_zero] at h4
    · rw [encs_length, hcl]
      omega
    · intro u hu
      unfold encs at hu
      obtain ⟨x, _, rfl⟩ := List.mem_map.1 hu
      rfl
    · intro w1 hw hB
      rw [encs_length]
      refine h w1 ⟨?_, ?_⟩ hB
      · rw [encs_length, Nat.mul_one]
      · right
        have hl : (src ++ l.drop src.length).length = l.length := by rw [List.length_append, List.length_drop]; omega
        refine ⟨g, c, (splice cur.toList 0 (encs (Value.int .u8) src)).toArray, ?_, hb, hw.out, ?_, h2, ?_, ?_⟩
        · rw [hl]
        · rw [hl]; exact h1
        · rw [Nat.mul_one, List.size_toArray, length_splice _ _ _ (by rw [encs_length, hcl]; omega), hcl]
        · rw [hl, Nat.mul_one, splice, List.take_zero, List.nil_append, Nat.zero_add, encs_append]
          have e5 : (encs (Value.int .u8) l).drop src.length = encs (Value.int .u8) (l.drop src.length) := by simp [encs]
          rw [← e5, ← h4, encs_length, List.take_append, encs_length, List.take_of_length_le (by rw [encs_length]; omega), List.drop_take]
end
end Go.Proofs.Ytbebmbcjddibaaa.Row
