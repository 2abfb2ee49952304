/- What is said here: a block of memory that is known whole (an array variable): its cells, a store into it, and what leaves it alone. It speaks of no program. -/
import Derived.Below
import Derived.OneCell
import Derived.Laws.Rows
import Derived.WalkKit
import Derived.Deep.Draws
namespace Go.Proofs.Ytbebmbcjddibaaa.Blk
set_option linter.unusedVariables false
set_option linter.unusedSimpArgs false
open Go.RowKit

/-- Block b of W holds the cells cs, of type T, none of them frozen. -/
def Is (W : World) (b : Nat) (cs : Array Value) (T : TypeId) : Prop := W.heap[b]? = some (.cells cs T (0, 0))

variable {W W' : World} {b : Nat} {cs : Array Value} {T : TypeId}

theorem Is.lt (h : Is W b cs T) : b < W.heap.size := lt_of_block h
theorem Is.new (W : World) (cs : Array Value) (T : TypeId) : Is (W.alloc (.cells cs T)) W.heap.size cs T := heap_alloc_new W _
theorem Is.alloc (h : Is W b cs T) (o : Obj) : Is (W.alloc o) b cs T := (Below.heap_alloc W o b h.lt).trans h
theorem Is.drew (h : Is W b cs T) : Is W.drew b cs T := h

theorem Is.drewN (h : Is W b cs T) (n : Nat) : Is (W.drewN n) b cs T := h
theorem Is.other (h : Is W b cs T) {a : Addr} (ha : b ≠ a.block) (v : Value) : Is (W.setCell a v) b cs T := (Below.heap_setCell W a v b ha).trans h
theorem Is.below {n : Nat} (h : Is W b cs T) (hb : Below n W W') (hn : b < n) : Is W' b cs T := (hb.block b hn).trans h
theorem Is.cell (h : Is W b cs T) (i : Nat) : W.cell? ⟨b, i, none⟩ = cs[i]? := cell_of_row W b i cs T (0, 0) h
theorem Is.free (h : Is W b cs T) (i : Nat) : W.frozen? ⟨b, i, none⟩ = false := by
  unfold Is at h
  simp [World.frozen?, h]
theorem Is.set (h : Is W b cs T) (i : Nat) (v : Value) : Is (W.setCell ⟨b, i, none⟩ v) b (cs.setIfInBounds i v) T := by
  have hlt := h.lt
  have h' : W.heap[b] = .cells cs T (0, 0) := by
    have h2 : W.heap[b]? = some (.cells cs T (0, 0)) := h
    simpa [Array.getElem?_eq_getElem hlt] using h2
  show (W.heap.modify b _)[b]? = _
  rw [Array.getElem?_eq_getElem (by simpa using hlt), Array.getElem_modify_self, h']
  rfl
theorem Is.setRow (h : Is W b cs T) (cs' : Array Value) : Is (W.setRow b cs') b cs' T := by
  have hlt := h.lt
  have h2 : W.heap[b]? = some (.cells cs T (0, 0)) := h
  exact setRow_heap W b cs cs' T (0, 0) h2
theorem Is.setRow_same (h : Is W b cs T) : W.setRow b cs = W := by
  have hlt := h.lt
  have h2 : W.heap[b]? = some (.cells cs T (0, 0)) := h
  have h3 : W.heap[b] = .cells cs T (0, 0) := by simpa [Array.getElem?_eq_getElem hlt] using h2
  unfold World.setRow
  have e : ∀ f : Obj → Obj, f (.cells cs T (0, 0)) = .cells cs T (0, 0) → W.heap.modify b f = W.heap := by
    intro f hf
    apply Array.ext (by simp)
    intro i h1 h2
    rw [Array.getElem_modify]
    split
    · subst_vars
      rw [h3, hf]
    · rfl
  rw [e _ rfl]
/-- Loads and stores of whole arrays, under names that the walk does not lay open. -/
def ld (t : TypeId) (x : Value) : Sem Value := Instr.loadAt t x
def st (t : TypeId) (x v : Value) : Sem Unit := Instr.storeAt t x v
/-- A whole array is read. -/
theorem load_row {P : Program} {t : TypeId} {d : TypeDesc} (h : Is W b cs T) (hu : P.underlying t = some d) (hd : (match d with | .struct _ | .array _ _ => true | _ => false) = true) (hi : (P.info? t).map (·.size) = some cs.size) :
    (ld t (.pointer (some ⟨b, 0, none⟩))).run P W = .ok (.agg cs) W := by
  simp only [ld, Instr.loadAt, Instr.sureAddr, Sem.run_bind, Sem.run_pure, Result.andThen_ok, run_loadVar_row W b T t cs (0, 0) d h hu hd hi]
/-- A whole array is written. -/
theorem store_row {P : Program} {t : TypeId} (cs' : Array Value) (h : Is W b cs T) (hi : (P.info? t).map (·.size) = some cs'.size) (hs : cs.size = cs'.size) (h1 : cs'.all (·.oneCell') = true) :
    (st t (.pointer (some ⟨b, 0, none⟩)) (.agg cs')).run P W = .ok () (W.setRow b cs') := by
  simp only [st, Instr.storeAt, Instr.sureAddr, Sem.run_bind, Sem.run_pure, Result.andThen_ok, run_storeVar_row W b T t cs cs' h hi hs h1]
theorem store_same {P : Program} {t : TypeId} (h : Is W b cs T) (hi : (P.info? t).map (·.size) = some cs.size) (h1 : cs.all (·.oneCell') = true) :
    (st t (.pointer (some ⟨b, 0, none⟩)) (.agg cs)).run P W = .ok () W := by
  rw [store_row cs h hi rfl h1, h.setRow_same]
/-- Two results that are whole arrays. -/
theorem results2 {P : Program} {fn : Func} {p q : Tmp} {t u : TypeId} (h : fn.results = #[.cell p t, .cell q u]) (tmps : Array Value) {b' : Nat} {cs' : Array Value} {T' : TypeId} {d d' : TypeDesc}
    (hp : tmps.getD p undef = .pointer (some ⟨b, 0, none⟩)) (hq : tmps.getD q undef = .pointer (some ⟨b', 0, none⟩)) (h1 : Is W b cs T) (h2 : Is W b' cs' T')
    (hu : P.underlying t = some d) (hd : (match d with | .struct _ | .array _ _ => true | _ => false) = true) (hi : (P.info? t).map (·.size) = some cs.size)
    (hu' : P.underlying u = some d') (hd' : (match d' with | .struct _ | .array _ _ => true | _ => false) = true) (hi' : (P.info? u).map (·.size) = some cs'.size) :
    (results fn tmps).run P W = .ok (.tuple #[.agg cs, .agg cs']) W := by
  have hp' : tmps[p]?.getD undef = .pointer (some ⟨b, 0, none⟩) := by simpa using hp
  have hq' : tmps[q]?.getD undef = .pointer (some ⟨b', 0, none⟩) := by simpa using hq
  simp [results, h, hp', hq', asAddr, run_loadVar_row W b T t cs (0, 0) d h1 hu hd hi, run_loadVar_row W b' T' u cs' (0, 0) d' h2 hu' hd' hi']
theorem below_setRow {B : Nat} {w0 : World} (h : Below B w0 W) (hb : B ≤ b) (cs' : Array Value) : Below B w0 (W.setRow b cs') :=
  h.trans ⟨rfl, rfl, rfl, by simp [World.setRow], fun k hk => setRow_other W b k cs' (by omega)⟩
end Go.Proofs.Ytbebmbcjddibaaa.Blk
