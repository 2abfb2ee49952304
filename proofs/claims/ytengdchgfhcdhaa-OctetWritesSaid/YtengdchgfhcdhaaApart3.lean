/- What is said here: rows of bytes that share no memory: what an append to one of them, and to a row of rows, leaves alone. -/
import Derived.Test.YtengdchgfhcdhaaApart2
import Derived.Test.YtengdchgfhcdhaaPAx
import Derived.BigQuiet
import Derived.Deep.QuietTactic
namespace Go.Proofs.Ytengdchgfhcdhaa.Apart
set_option linter.unusedVariables false
set_option linter.unusedSimpArgs false
open Go.RowKit Go.Proofs.Ytengdchgfhcdhaa.Row Go.Proofs.YtengdchgfhcdhaaW.PrintWords Go.Proofs.YtengdchgfhcdhaaW.PrintLast Go.Proofs.YtengdchgfhcdhaaW.PrintMore

def rows (n : Nat) (f : Nat → Value) : List Value := (List.range n).map f
theorem rows_len (n : Nat) (f : Nat → Value) : (rows n f).length = n := by simp [rows]
theorem rows_get (n : Nat) (f : Nat → Value) (q : Nat) (h : q < n) : (rows n f)[q]'(by rw [rows_len]; exact h) = f q := by simp [rows]
def upd (f : Nat → Value) (i : Nat) (u : Value) : Nat → Value := fun q => if q = i then u else f q
theorem upd_at (f : Nat → Value) (i : Nat) (u : Value) : upd f i u i = u := by simp [upd]
theorem upd_ne (f : Nat → Value) (i q : Nat) (u : Value) (h : q ≠ i) : upd f i u q = f q := by simp [upd, h]
theorem rows_upd (f : Nat → Value) (i : Nat) (u : Value) : rows (i + 1) (upd f i u) = rows i f ++ [u] := by
  unfold rows
  rw [List.range_succ, List.map_append]
  congr 1
  · apply List.map_congr_left
    intro q hq
    rw [List.mem_range] at hq
    exact upd_ne f i q u (by omega)
  · simp [upd]
theorem _root_.Go.Proofs.Ytengdchgfhcdhaa.Row.IsV.low {W : World} {base b : Nat} {v : Value} {vs : List Value} (h : IsV W base v vs) (hb : b ≤ base) : IsV W b v vs := own_weaken h hb
theorem _root_.Go.Proofs.Ytengdchgfhcdhaa.Row.IsV.at {W : World} {base g n c m : Nat} {f : Nat → Value} (h : IsV W base (.slice (some ⟨g, 0, none⟩) n c) (rows m f)) (i : Nat) (hi : i < m) : W.cell? ⟨g, i, none⟩ = some (f i) := by
  have := h.cell i (by rw [rows_len]; exact hi)
  rwa [rows_get m f i hi] at this
theorem _root_.Go.Proofs.Ytengdchgfhcdhaa.Row.IsV.form {W : World} {base : Nat} {v : Value} {vs : List Value} (h : IsV W base v vs) : ∃ A c, v = .slice A vs.length c ∧ (0 < vs.length → ∃ g, A = some ⟨g, 0, none⟩) := by
  rcases h.2 with ⟨e, e0⟩ | ⟨g, c, cur, e, _⟩
  · exact ⟨none, 0, by rw [e, e0], fun h => by omega⟩
  · exact ⟨_, c, e, fun _ => ⟨g, rfl⟩⟩
/-- The rows, and copies of them. -/
structure St (W : World) (base H n : Nat) (all v3 : Value) (vs us : Nat → Value) (ls : Nat → List Int) : Prop where
  row : IsV W base all (rows n vs)
  was : IsV W H v3 (rows n us)
  each : ∀ q, q < n → Is W base (vs q) (ls q)
  eachU : ∀ q, q < n → Is W H (us q) (ls q)
/-- Where they lie. -/
structure Lie (H H2 n : Nat) (all v3 : Value) (vs us : Nat → Value) : Prop where
  lall : ∀ k, all.ownBlock = some k → k < H
  lwas : ∀ k, v3.ownBlock = some k → H ≤ k ∧ k < H2
  lvs : ∀ q, q < n → ∀ k, (vs q).ownBlock = some k → k < H
  lus : ∀ q, q < n → ∀ k, (us q).ownBlock = some k → H ≤ k ∧ k < H2
  un : ∀ p q, p < n → q < n → p ≠ q → ∀ k, (vs p).ownBlock = some k → (vs q).ownBlock ≠ some k
  le : H ≤ H2
/-- The rows that were gone on with. -/
structure More (W : World) (base H2 K i : Nat) (v5 : Value) (vs ms : Nat → Value) (ls : Nat → List Int) (b : Nat → Int) : Prop where
  row : IsV W H2 v5 (rows i ms)
  each : ∀ q, q < i → Is W base (ms q) (ls q ++ List.replicate 40 (b q))
  own : ∀ q, q < i → (ms q).ownBlock = (vs q).ownBlock ∨ ∃ k, (ms q).ownBlock = some k ∧ H2 ≤ k ∧ k < K
/-- A row that is gone on with. -/
structure Go (W : World) (base K : Nat) (g v : Value) (l m : List Int) : Prop where
  is : Is W base g (l ++ m)
  own : g.ownBlock = v.ownBlock ∨ ∃ k, g.ownBlock = some k ∧ K ≤ k
variable {W W' : World} {m : List Int} {l5 : List Value} {base H H2 K n i : Nat} {all v3 v5 g : Value} {vs us ms : Nat → Value} {ls : Nat → List Int} {b : Nat → Int}
/-- No other row lies where the one lies that is gone on with. -/
theorem Go.off (hg : Go W base K g (vs i) (ls i) m) (hL : Lie H H2 n all v3 vs us) (hK : H2 ≤ K) (hi : i < n) (k : Nat) (hk : g.ownBlock = some k) :
    (∀ q, q < n → q ≠ i → (vs q).ownBlock ≠ some k) ∧ (∀ q, q < n → (us q).ownBlock ≠ some k) ∧ (k < H ∧ (vs i).ownBlock = some k ∨ K ≤ k) := by
  have hle := hL.le
  rcases hg.own with h | ⟨k', h, h2⟩
  · rw [hk] at h
    have h3 := hL.lvs i hi k h.symm
    refine ⟨fun q hq hne e => hL.un i q hi hq (Ne.symm hne) k h.symm e, fun q hq e => ?_, .inl ⟨h3, h.symm⟩⟩
    have := hL.lus q hq k e
    omega
  · rw [hk] at h
    injection h with h
    subst h
    refine ⟨fun q hq hne e => ?_, fun q hq e => ?_, .inr h2⟩
    · have := hL.lvs q hq k e; omega
    · have := hL.lus q hq k e; omega
/-- .. so an append to it leaves them alone. -/
theorem St.go (hS : St W base H n all v3 vs us ls) (hg : Go W base K g (vs i) (ls i) m) (hL : Lie H H2 n all v3 vs us) (hK : H2 ≤ K) (hi : i < n) (hbase : base ≤ H) (hgr : W.grownBy W' g.ownBlock) (hv : Is W' base (vs i) (ls i)) : St W' base H n all v3 vs us ls where
  row := hS.row.grown hgr (fun k hk e => hS.row.apart hg.is k hk e.symm)
  was := hS.was.grown hgr (fun k hk e => (hS.was.low hbase).apart hg.is k hk e.symm)
  each q hq := by
    by_cases h : q = i
    · subst h; exact hv
    · exact (hS.each q hq).grown hgr (fun k hk e => (hg.off hL hK hi k e.symm).1 q hq h hk)
  eachU q hq := (hS.eachU q hq).grown hgr (fun k hk e => (hg.off hL hK hi k e.symm).2.1 q hq hk)
theorem More.go (hM : More W base H2 K i v5 vs ms ls b) (hg : Go W base K g (vs i) (ls i) m) (hL : Lie H H2 n all v3 vs us) (hK : H2 ≤ K) (hi : i < n) (hbase : base ≤ H2) (hgr : W.grownBy W' g.ownBlock) : More W' base H2 K i v5 vs ms ls b where
  row := hM.row.grown hgr (fun k hk e => (hM.row.low hbase).apart hg.is k hk e.symm)
  each q hq := (hM.each q hq).grown hgr (fun k hk e => by
    have ho := hg.off hL hK hi k e.symm
    rcases hM.own q hq with h | ⟨k', h, h1, h2⟩
    · rw [hk] at h
      exact ho.1 q (by omega) (by omega) h.symm
    · rw [hk] at h
      injection h with h
      subst h
      have := hL.le
      rcases ho.2.2 with h | h <;> omega)
  own := hM.own
/-- The row of rows is appended to: the rows of bytes stay. -/
theorem St.more (hS : St W base H n all v3 vs us ls) (h5 : IsV W H2 v5 l5) (hL : Lie H H2 n all v3 vs us) (hbase : base ≤ H) (hgr : W.grownBy W' v5.ownBlock) : St W' base H n all v3 vs us ls where
  row := hS.row.grown hgr (fun k hk e => by
    have := hL.lall k hk
    have := (h5.lt k e.symm).1
    have := hL.le
    omega)
  was := hS.was.grown hgr (fun k hk e => by
    have := hL.lwas k hk
    have := (h5.lt k e.symm).1
    omega)
  each q hq := (hS.each q hq).grown hgr (fun k hk e => (h5.low (Nat.le_trans hbase hL.le)).apart (hS.each q hq) k e.symm hk)
  eachU q hq := (hS.eachU q hq).grown hgr (fun k hk e => (h5.low hL.le).apart (hS.eachU q hq) k e.symm hk)
/-- While rows are written over: those that follow row i, and the copies. -/
structure Rest (w W : World) (base H n i : Nat) (all v3 : Value) (vs us : Nat → Value) (ls : Nat → List Int) : Prop where
  row : IsV W base all (rows n vs)
  was : IsV W H v3 (rows n us)
  each : ∀ q, i < q → q < n → Is W base (vs q) (ls q)
  eachU : ∀ q, q < n → Is W H (us q) (ls q)
  below : Below base w W
theorem Rest.drewN {w : World} (h : Rest w W base H n i all v3 vs us ls) (m : Nat) : Rest w (W.drewN m) base H n i all v3 vs us ls := ⟨h.row, h.was, h.each, h.eachU, pw_below_drewN h.below m⟩
theorem Rest.next {w : World} (h : Rest w W base H n i all v3 vs us ls) : Rest w W base H n (i + 1) all v3 vs us ls := ⟨h.row, h.was, fun q h1 h2 => h.each q (by omega) h2, h.eachU, h.below⟩
/-- Row i is stored into. -/
theorem Rest.set {w : World} {l : List Int} {gb k : Nat} {u : Value} (h : Rest w W base H n i all v3 vs us ls) (hL : Lie H H2 n all v3 vs us) (hi : i < n) (hbase : base ≤ H) (hv : (vs i).ownBlock = some gb) (hI : Is W base (vs i) l) : Rest w (W.setCell ⟨gb, k, none⟩ u) base H n i all v3 vs us ls where
  row := h.row.move (fun j hj => Below.heap_setCell _ _ _ _ (by rintro rfl; exact h.row.apart hI _ hj hv))
  was := h.was.move (fun j hj => Below.heap_setCell _ _ _ _ (by rintro rfl; exact (h.was.low hbase).apart hI _ hj hv))
  each q h1 h2 := (h.each q h1 h2).other (fun e => hL.un i q hi h2 (by omega) gb hv e) u
  eachU q hq := (h.eachU q hq).other (fun e => by
    have h1 := hL.lvs i hi gb hv
    have h2 := hL.lus q hq gb e
    omega) u
  below := h.below.setCell (hI.lt gb hv).1 u
theorem St.drewN (hS : St W base H n all v3 vs us ls) (m : Nat) : St (W.drewN m) base H n all v3 vs us ls := ⟨hS.row, hS.was, hS.each, hS.eachU⟩
end Go.Proofs.Ytengdchgfhcdhaa.Apart
