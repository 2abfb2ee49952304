/- What is said here: arrays in memory as functions of their places; what is loaded out of the middle of a block; a block of AES on its way. -/
import Derived.Test.YtfbhbkcjnbpnlaaProg
import Derived.Test.YtfbhbkcjnbpnlaaPoly
import Derived.Test.YtfbhbkcjnbpnlaaBlk
import Derived.Deep.MidRow
import Derived.Outline
import Derived.Lib.Hide
namespace Go.Proofs.Ytfbhbkcjnbpnlaa.Aes
set_option linter.unusedVariables false
set_option linter.unusedSimpArgs false
open Go.RowKit
open Gf Gfi Poly

/-- n cells. -/
def mkA (n : Nat) (f : Nat → Value) : Array Value := ((List.range n).map f).toArray
theorem mkA_size (n : Nat) (f : Nat → Value) : (mkA n f).size = n := by simp [mkA]
theorem mkA_get (n : Nat) (f : Nat → Value) (i : Nat) (h : i < n) : (mkA n f)[i]? = some (f i) := by
  unfold mkA
  rw [List.getElem?_toArray, List.getElem?_map, List.getElem?_range h]
  rfl
theorem mkA_congr {n : Nat} {f g : Nat → Value} (h : ∀ i, i < n → f i = g i) : mkA n f = mkA n g := by
  unfold mkA
  rw [List.map_congr_left (fun i hi => h i (List.mem_range.1 hi))]
theorem mkA_set (n : Nat) (f : Nat → Value) (i : Nat) (v : Value) : (mkA n f).setIfInBounds i v = mkA n (fun q => if q = i then v else f q) := by
  apply Array.ext_getElem?
  intro j
  rw [Array.getElem?_setIfInBounds]
  by_cases hj : j < n
  · have h1 : (mkA n fun q => if q = i then v else f q)[j]? = some (if j = i then v else f j) := mkA_get n _ j hj
    rw [h1]
    by_cases e : i = j
    · subst e
      rw [if_pos rfl, if_pos (by rw [mkA_size]; exact hj), if_pos rfl]
    · rw [if_neg e, mkA_get n _ j hj, if_neg (fun h => e h.symm)]
  · have h1 : (mkA n fun q => if q = i then v else f q)[j]? = none := Array.getElem?_eq_none (by rw [mkA_size]; omega)
    have h2 : (mkA n f)[j]? = none := Array.getElem?_eq_none (by rw [mkA_size]; omega)
    rw [h1, h2]
    by_cases e : i = j
    · rw [if_pos e, if_neg (by rw [mkA_size]; omega)]
    · rw [if_neg e]
theorem mkA_one (n : Nat) (f : Nat → Value) (h : ∀ i, i < n → (f i).oneCell' = true) : (mkA n f).all (·.oneCell') = true := by
  rw [Array.all_eq_true_iff_forall_mem]
  intro x hx
  unfold mkA at hx
  rw [List.mem_toArray] at hx
  obtain ⟨i, hi, rfl⟩ := List.mem_map.1 hx
  exact h i (List.mem_range.1 hi)
/-- n bytes. -/
def cB (n : Nat) (f : Nat → B) : Array Value := mkA n (fun q => .int .u8 (ofB (f q)))
theorem cB_size (n : Nat) (f : Nat → B) : (cB n f).size = n := mkA_size n _
theorem cB_get (n : Nat) (f : Nat → B) (i : Nat) (h : i < n) : (cB n f)[i]? = some (.int .u8 (ofB (f i))) := mkA_get n _ i h
def updB (f : Nat → B) (i : Nat) (b : B) : Nat → B := fun q => if q = i then b else f q
theorem cB_set (n : Nat) (f : Nat → B) (i : Nat) (b : B) : (cB n f).setIfInBounds i (.int .u8 (ofB b)) = cB n (updB f i b) := by
  unfold cB
  rw [mkA_set]
  exact mkA_congr (fun q _ => by
    unfold updB
    by_cases e : q = i
    · rw [if_pos e, if_pos e]
    · rw [if_neg e, if_neg e])
theorem cB_congr {n : Nat} {f g : Nat → B} (h : ∀ i, i < n → f i = g i) : cB n f = cB n g := mkA_congr (fun i hi => by rw [h i hi])
theorem cB_one (n : Nat) (f : Nat → B) : (cB n f).all (·.oneCell') = true := mkA_one n _ (fun _ _ => rfl)
/-- Bytes out of the middle of a block. -/
theorem ld_mid {W : World} {b : Nat} {cs : Array Value} {T : TypeId} (h : Blk.Is W b cs T) (t : TypeId) (o n : Nat) (f : Nat → B) (d : TypeDesc) (hv : ∀ j, j < n → cs[o + j]? = some (.int .u8 (ofB (f j)))) (hu : Try.prog.underlying t = some d) (hd : d.isRow = true) (hi : (Try.prog.info? t).map (·.size) = some n) :
    (Blk.ld t (.pointer (some ⟨b, o, none⟩))).run Try.prog W = .ok (.agg (cB n f)) W := by
  have hr : W.rangeAt b o ((List.range n).map fun q => Value.int .u8 (ofB (f q))) := fun j v hj => by
    have hjl : j < n := by have := (List.getElem?_eq_some_iff.1 hj).1; rwa [List.length_map, List.length_range] at this
    rw [h.cell, hv j hjl]
    rw [List.getElem?_map, List.getElem?_range hjl] at hj
    exact hj
  exact run_loadAt_mid W b o t _ d hr hu hd (by rw [hi, List.length_map, List.length_range])
/-- The cells of a block on its way: sixteen bytes, the key's place, the round. -/
def stA (st : Nat → B) (kb r : Nat) : Array Value := mkA 18 (fun q => if q < 16 then .int .u8 (ofB (st q)) else if q = 16 then .pointer (some ⟨kb, 0, none⟩) else .int .i64 (r : Int))
theorem stA_get (st : Nat → B) (kb r i : Nat) (h : i < 16) : (stA st kb r)[i]? = some (.int .u8 (ofB (st i))) := by
  unfold stA
  rw [mkA_get _ _ _ (by omega), if_pos h]
theorem stA_key (st : Nat → B) (kb r : Nat) : (stA st kb r)[16]? = some (.pointer (some ⟨kb, 0, none⟩)) := by
  unfold stA
  rw [mkA_get _ _ _ (by omega)]
  rfl
theorem stA_round (st : Nat → B) (kb r : Nat) : (stA st kb r)[17]? = some (.int .i64 (r : Int)) := by
  unfold stA
  rw [mkA_get _ _ _ (by omega)]
  rfl
theorem stA_set (st : Nat → B) (kb r i : Nat) (h : i < 16) (b : B) : (stA st kb r).setIfInBounds i (.int .u8 (ofB b)) = stA (updB st i b) kb r := by
  unfold stA
  rw [mkA_set]
  refine mkA_congr (fun q _ => ?_)
  unfold updB
  by_cases e : q = i
  · subst e
    rw [if_pos rfl, if_pos h, if_pos rfl]
  · rw [if_neg e, if_neg e]
theorem stA_setRound (st : Nat → B) (kb r r' : Nat) : (stA st kb r).setIfInBounds 17 (.int .i64 (r' : Int)) = stA st kb r' := by
  unfold stA
  rw [mkA_set]
  refine mkA_congr (fun q hq => ?_)
  by_cases e : q = 17
  · subst e
    rfl
  · rw [if_neg e]
    by_cases h : q < 16
    · rw [if_pos h, if_pos h]
    · rw [if_neg h, if_neg h, if_pos (by omega), if_pos (by omega)]
theorem stA_congr {st st' : Nat → B} (kb r : Nat) (h : ∀ i, i < 16 → st i = st' i) : stA st kb r = stA st' kb r := by
  unfold stA
  refine mkA_congr (fun q _ => ?_)
  by_cases hq : q < 16
  · rw [if_pos hq, if_pos hq, h q hq]
  · rw [if_neg hq, if_neg hq]
/-- A block on its way, in memory, beside its key. -/
structure St (W : World) (s kb : Nat) (K st : Nat → B) (r : Nat) : Prop where
  b : Blk.Is W s (stA st kb r) 49
  k : Blk.Is W kb (cB 752 K) 27
  lt : kb < s
variable {W W' : World} {s kb r : Nat} {K st : Nat → B}
theorem St.below (h : St W s kb K st r) (hb : Below W.heap.size W W') : St W' s kb K st r := ⟨h.b.below hb h.b.lt, h.k.below hb h.k.lt, h.lt⟩
theorem St.drewN (h : St W s kb K st r) (n : Nat) : St (W.drewN n) s kb K st r := ⟨h.b.drewN n, h.k.drewN n, h.lt⟩
theorem St.drew (h : St W s kb K st r) : St W.drew s kb K st r := ⟨h.b, h.k, h.lt⟩
theorem St.alloc (h : St W s kb K st r) (o : Obj) : St (W.alloc o) s kb K st r := ⟨h.b.alloc o, h.k.alloc o, h.lt⟩
theorem St.set (h : St W s kb K st r) (i : Nat) (hi : i < 16) (b : B) : St (W.setCell ⟨s, i, none⟩ (.int .u8 (ofB b))) s kb K (updB st i b) r :=
  ⟨by rw [← stA_set st kb r i hi b]; exact h.b.set i _, h.k.other (fun e => by have := h.lt; simp at e; omega) _, h.lt⟩
theorem St.congr (h : St W s kb K st r) {st' : Nat → B} (he : ∀ i, i < 16 → st i = st' i) : St W s kb K st' r := ⟨by rw [← stA_congr kb r he]; exact h.b, h.k, h.lt⟩
theorem St.at_ (h : St W s kb K st r) (i : Nat) (hi : i < 16) : W.cell? ⟨s, i, none⟩ = some (.int .u8 (ofB (st i))) := by rw [h.b.cell, stA_get _ _ _ _ hi]
theorem St.key (h : St W s kb K st r) : W.cell? ⟨s, 16, none⟩ = some (.pointer (some ⟨kb, 0, none⟩)) := by rw [h.b.cell, stA_key]
theorem St.round (h : St W s kb K st r) : W.cell? ⟨s, 17, none⟩ = some (.int .i64 (r : Int)) := by rw [h.b.cell, stA_round]
theorem St.free (h : St W s kb K st r) (i : Nat) : W.frozen? ⟨s, i, none⟩ = false := h.b.free i
theorem St.atKey (h : St W s kb K st r) (i : Nat) (hi : i < 752) : W.cell? ⟨kb, i, none⟩ = some (.int .u8 (ofB (K i))) := by rw [h.k.cell, cB_get _ _ _ hi]
/-- The steps, as functions. -/
def addS (K : Nat → B) (r : Nat) (st : Nat → B) : Nat → B := fun i => st i ^^^ K (16 * r + i)
def swapS (K : Nat → B) (st : Nat → B) : Nat → B := fun i => K (240 + (st i).toNat)
def backS (K : Nat → B) (st : Nat → B) : Nat → B := fun i => K (496 + (st i).toNat)
def shiftS (st : Nat → B) : Nat → B := fun i => st ((i + 4 * (i % 4)) % 16)
def unshiftS (st : Nat → B) : Nat → B := fun i => st ((i + 12 * (i % 4)) % 16)
theorem ld23 (x : Value) : Instr.loadAt 23 x = Blk.ld 23 x := rfl
theorem st23 (x v : Value) : Instr.storeAt 23 x v = Blk.st 23 x v := rfl
theorem St.load (h : St W s kb K st r) : (Blk.ld 23 (.pointer (some ⟨s, 0, none⟩))).run Try.prog W = .ok (.agg (cB 16 st)) W :=
  ld_mid h.b 23 0 16 st _ (fun j hj => by rw [Nat.zero_add]; exact stA_get st kb r j hj) Try.underlying23 rfl (by kernel_rfl)
theorem St.loadRound (h : St W s kb K st r) (q : Nat) (hq : q ≤ 14) : (Blk.ld 23 (.pointer (some ⟨kb, q * 16, none⟩))).run Try.prog W = .ok (.agg (cB 16 (fun i => K (16 * q + i)))) W :=
  ld_mid h.k 23 (q * 16) 16 _ _ (fun j hj => by rw [cB_get _ _ _ (by omega), Nat.mul_comm q 16]) Try.underlying23 rfl (by kernel_rfl)
/-- Of what is there, the block s alone has turned. -/
structure Keeps (s : Nat) (w w' : World) : Prop where
  below : Below s w w'
  rest : ∀ k, k < w.heap.size → k ≠ s → w'.heap[k]? = w.heap[k]?
theorem Keeps.refl (s : Nat) (w : World) : Keeps s w w := ⟨Below.refl s w, fun _ _ _ => rfl⟩
theorem Keeps.trans {s : Nat} {a b c : World} (h : Keeps s a b) (k : Keeps s b c) : Keeps s a c :=
  ⟨h.below.trans k.below, fun i hi hs => (k.rest i (Nat.lt_of_lt_of_le hi h.below.size) hs).trans (h.rest i hi hs)⟩
theorem Keeps.drew {s : Nat} {a w : World} (h : Keeps s a w) : Keeps s a w.drew := ⟨h.below.drew, h.rest⟩
theorem Keeps.drewN {s : Nat} {a w : World} (h : Keeps s a w) (n : Nat) : Keeps s a (w.drewN n) := ⟨h.below.trans ⟨rfl, rfl, rfl, Nat.le_refl _, fun _ _ => rfl⟩, h.rest⟩
theorem Keeps.alloc {s : Nat} {a w : World} (h : Keeps s a w) (hs : s ≤ w.heap.size) (o : Obj) : Keeps s a (w.alloc o) :=
  ⟨h.below.alloc hs o, fun k hk hn => (Below.heap_alloc _ _ _ (Nat.lt_of_lt_of_le hk h.below.size)).trans (h.rest k hk hn)⟩
theorem Keeps.setCell {s : Nat} {a w : World} (h : Keeps s a w) {p : Addr} (hp : p.block = s) (u : Value) : Keeps s a (w.setCell p u) :=
  ⟨h.below.setCell (Nat.le_of_eq hp.symm) u, fun k hk hn => (Below.heap_setCell _ _ _ _ (fun e => hn (e.trans hp))).trans (h.rest k hk hn)⟩
theorem Keeps.is {s b : Nat} {w w' : World} {cs : Array Value} {T : TypeId} (h : Keeps s w w') (hi : Blk.Is w b cs T) (hn : b ≠ s) : Blk.Is w' b cs T := (h.rest b hi.lt hn).trans hi
end Go.Proofs.Ytfbhbkcjnbpnlaa.Aes
