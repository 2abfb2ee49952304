/- What is said here: the steps of AES on a block in memory: adding the key, swapping, shifting, mixing. -/
import Derived.Test.YtbebmbcjddibaaaProg
import Derived.Test.YtbebmbcjddibaaaPoly
import Derived.Test.YtbebmbcjddibaaaBlk
import Derived.Deep.MidRow
import Derived.Outline
import Derived.Lib.Hide
import Derived.Test.YtbebmbcjddibaaaWWords
import Derived.Test.YtbebmbcjddibaaaWLast
import Derived.Test.YtbebmbcjddibaaaWMore
import Derived.Deep.RegionHeld3
import Derived.BigQuiet
import Derived.Deep.QuietTactic
import Derived.StillTailTactics
import Derived.LoopTactic
import Derived.Deep.WholeRow
import Derived.Test.YtbebmbcjddibaaaPAx1
import Derived.Laws.Cover3
namespace Go.Proofs.Ytbebmbcjddibaaa.Aes
set_option linter.unusedVariables false
set_option linter.unusedSimpArgs false
open Go.RowKit
open Gf Gfi Poly

/-- n cells. -/
def mkA (n : Nat) (f : Nat → Value) : Array Value := ((List.range n).map f).toArray
theorem mkA_size (n : Nat) (f : Nat → Value) : (mkA n f).size = n := by simp [mkA]
theorem mkA_get (n : Nat) (f : Nat → Value) (i : Nat) (h : i < n) : (mkA n f)[i]? = some (f i) := by
  unfold mkA
  rw [List.getElem?_toArray, List.getElem?_map, List.getElem?_range h]
  rfl
theorem mkA_congr {n : Nat} {f g : Nat → Value} (h : ∀ i, i < n → f i = g i) : mkA n f = mkA n g := by
  unfold mkA
  rw [List.map_congr_left (fun i hi => h i (List.mem_range.1 hi))]
theorem mkA_set (n : Nat) (f : Nat → Value) (i : Nat) (v : Value) : (mkA n f).setIfInBounds i v = mkA n (fun q => if q = i then v else f q) := by
  apply Array.ext_getElem?
  intro j
  rw [Array.getElem?_setIfInBounds]
  by_cases hj : j < n
  · have h1 : (mkA n fun q => if q = i then v else f q)[j]? = some (if j = i then v else f j) := mkA_get n _ j hj
    rw [h1]
    by_cases e : i = j
    · subst e
      rw [if_pos rfl, if_pos (by rw [mkA_size]; exact hj), if_pos rfl]
    · rw [if_neg e, mkA_get n _ j hj, if_neg (fun h => e h.symm)]
  · have h1 : (mkA n fun q => if q = i then v else f q)[j]? = none := Array.getElem?_eq_none (by rw [mkA_size]; omega)
    have h2 : (mkA n f)[j]? = none := Array.getElem?_eq_none (by rw [mkA_size]; omega)
    rw [h1, h2]
    by_cases e : i = j
    · rw [if_pos e, if_neg (by rw [mkA_size]; omega)]
    · rw [if_neg e]
theorem mkA_one (n : Nat) (f : Nat → Value) (h : ∀ i, i < n → (f i).oneCell' = true) : (mkA n f).all (·.oneCell') = true := by
  rw [Array.all_eq_true_iff_forall_mem]
  intro x hx
  unfold mkA at hx
  rw [List.mem_toArray] at hx
  obtain ⟨i, hi, rfl⟩ := List.mem_map.1 hx
  exact h i (List.mem_range.1 hi)
/-- n bytes. -/
def cB (n : Nat) (f : Nat → B) : Array Value := mkA n (fun q => .int .u8 (ofB (f q)))
theorem cB_size (n : Nat) (f : Nat → B) : (cB n f).size = n := mkA_size n _
theorem cB_get (n : Nat) (f : Nat → B) (i : Nat) (h : i < n) : (cB n f)[i]? = some (.int .u8 (ofB (f i))) := mkA_get n _ i h
def updB (f : Nat → B) (i : Nat) (b : B) : Nat → B := fun q => if q = i then b else f q
theorem cB_set (n : Nat) (f : Nat → B) (i : Nat) (b : B) : (cB n f).setIfInBounds i (.int .u8 (ofB b)) = cB n (updB f i b) := by
  unfold cB
  rw [mkA_set]
  exact mkA_congr (fun q _ => by
    unfold updB
    by_cases e : q = i
    · rw [if_pos e, if_pos e]
    · rw [if_neg e, if_neg e])
theorem cB_congr {n : Nat} {f g : Nat → B} (h : ∀ i, i < n → f i = g i) : cB n f = cB n g := mkA_congr (fun i hi => by rw [h i hi])
theorem cB_one (n : Nat) (f : Nat → B) : (cB n f).all (·.oneCell') = true := mkA_one n _ (fun _ _ => rfl)
/-- Bytes out of the middle of a block. -/
theorem ld_mid {W : World} {b : Nat} {cs : Array Value} {T : TypeId} (h : Blk.Is W b cs T) (t : TypeId) (o n : Nat) (f : Nat → B) (d : TypeDesc) (hv : ∀ j, j < n → cs[o + j]? = some (.int .u8 (ofB (f j)))) (hu : Try.prog.underlying t = some d) (hd : d.isRow = true) (hi : (Try.prog.info? t).map (·.size) = some n) :
    (Blk.ld t (.pointer (some ⟨b, o, none⟩))).run Try.prog W = .ok (.agg (cB n f)) W := by
  have hr : W.rangeAt b o ((List.range n).map fun q => Value.int .u8 (ofB (f q))) := fun j v hj => by
    have hjl : j < n := by have := (List.getElem?_eq_some_iff.1 hj).1; rwa [List.length_map, List.length_range] at this
    rw [h.cell, hv j hjl]
    rw [List.getElem?_map, List.getElem?_range hjl] at hj
    exact hj
  exact run_loadAt_mid W b o t _ d hr hu hd (by rw [hi, List.length_map, List.length_range])
/-- The cells of a block on its way: sixteen bytes, the key's place, the round. -/
def stA (st : Nat → B) (kb r : Nat) : Array Value := mkA 18 (fun q => if q < 16 then .int .u8 (ofB (st q)) else if q = 16 then .pointer (some ⟨kb, 0, none⟩) else .int .i64 (r : Int))
theorem stA_get (st : Nat → B) (kb r i : Nat) (h : i < 16) : (stA st kb r)[i]? = some (.int .u8 (ofB (st i))) := by
  unfold stA
  rw [mkA_get _ _ _ (by omega), if_pos h]
theorem stA_key (st : Nat → B) (kb r : Nat) : (stA st kb r)[16]? = some (.pointer (some ⟨kb, 0, none⟩)) := by
  unfold stA
  rw [mkA_get _ _ _ (by omega)]
  rfl
theorem stA_round (st : Nat → B) (kb r : Nat) : (stA st kb r)[17]? = some (.int .i64 (r : Int)) := by
  unfold stA
  rw [mkA_get _ _ _ (by omega)]
  rfl
theorem stA_set (st : Nat → B) (kb r i : Nat) (h : i < 16) (b : B) : (stA st kb r).setIfInBounds i (.int .u8 (ofB b)) = stA (updB st i b) kb r := by
  unfold stA
  rw [mkA_set]
  refine mkA_congr (fun q _ => ?_)
  unfold updB
  by_cases e : q = i
  · subst e
    rw [if_pos rfl, if_pos h, if_pos rfl]
  · rw [if_neg e, if_neg e]
theorem stA_setRound (st : Nat → B) (kb r r' : Nat) : (stA st kb r).setIfInBounds 17 (.int .i64 (r' : Int)) = stA st kb r' := by
  unfold stA
  rw [mkA_set]
  refine mkA_congr (fun q hq => ?_)
  by_cases e : q = 17
  · subst e
    rfl
  · rw [if_neg e]
    by_cases h : q < 16
    · rw [if_pos h, if_pos h]
    · rw [if_neg h, if_neg h, if_pos (by omega), if_pos (by omega)]
theorem stA_congr {st st' : Nat → B} (kb r : Nat) (h : ∀ i, i < 16 → st i = st' i) : stA st kb r = stA st' kb r := by
  unfold stA
  refine mkA_congr (fun q _ => ?_)
  by_cases hq : q < 16
  · rw [if_pos hq, if_pos hq, h q hq]
  · rw [if_neg hq, if_neg hq]
/-- A block on its way, in memory, beside its key. -/
structure St (W : World) (s kb : Nat) (K st : Nat → B) (r : Nat) : Prop where
  b : Blk.Is W s (stA st kb r) 82
  k : Blk.Is W kb (cB 752 K) 53
  lt : kb < s
variable {W W' : World} {s kb r : Nat} {K st : Nat → B}
theorem St.below (h : St W s kb K st r) (hb : Below W.heap.size W W') : St W' s kb K st r := ⟨h.b.below hb h.b.lt, h.k.below hb h.k.lt, h.lt⟩
theorem St.drewN (h : St W s kb K st r) (n : Nat) : St (W.drewN n) s kb K st r := ⟨h.b.drewN n, h.k.drewN n, h.lt⟩
theorem St.drew (h : St W s kb K st r) : St W.drew s kb K st r := ⟨h.b, h.k, h.lt⟩
theorem St.alloc (h : St W s kb K st r) (o : Obj) : St (W.alloc o) s kb K st r := ⟨h.b.alloc o, h.k.alloc o, h.lt⟩
theorem St.set (h : St W s kb K st r) (i : Nat) (hi : i < 16) (b : B) : St (W.setCell ⟨s, i, none⟩ (.int .u8 (ofB b))) s kb K (updB st i b) r :=
  ⟨by rw [← stA_set st kb r i hi b]; exact h.b.set i _, h.k.other (fun e => by have := h.lt; simp at e; omega) _, h.lt⟩
theorem St.congr (h : St W s kb K st r) {st' : Nat → B} (he : ∀ i, i < 16 → st i = st' i) : St W s kb K st' r := ⟨by rw [← stA_congr kb r he]; exact h.b, h.k, h.lt⟩
theorem St.at_ (h : St W s kb K st r) (i : Nat) (hi : i < 16) : W.cell? ⟨s, i, none⟩ = some (.int .u8 (ofB (st i))) := by rw [h.b.cell, stA_get _ _ _ _ hi]
theorem St.key (h : St W s kb K st r) : W.cell? ⟨s, 16, none⟩ = some (.pointer (some ⟨kb, 0, none⟩)) := by rw [h.b.cell, stA_key]
theorem St.round (h : St W s kb K st r) : W.cell? ⟨s, 17, none⟩ = some (.int .i64 (r : Int)) := by rw [h.b.cell, stA_round]
theorem St.free (h : St W s kb K st r) (i : Nat) : W.frozen? ⟨s, i, none⟩ = false := h.b.free i
theorem St.atKey (h : St W s kb K st r) (i : Nat) (hi : i < 752) : W.cell? ⟨kb, i, none⟩ = some (.int .u8 (ofB (K i))) := by rw [h.k.cell, cB_get _ _ _ hi]
/-- The steps, as functions. -/
def addS (K : Nat → B) (r : Nat) (st : Nat → B) : Nat → B := fun i => st i ^^^ K (16 * r + i)
def swapS (K : Nat → B) (st : Nat → B) : Nat → B := fun i => K (240 + (st i).toNat)
def backS (K : Nat → B) (st : Nat → B) : Nat → B := fun i => K (496 + (st i).toNat)
def shiftS (st : Nat → B) : Nat → B := fun i => st ((i + 4 * (i % 4)) % 16)
def unshiftS (st : Nat → B) : Nat → B := fun i => st ((i + 12 * (i % 4)) % 16)
theorem ld23 (x : Value) : Instr.loadAt 37 x = Blk.ld 37 x := rfl
theorem st23 (x v : Value) : Instr.storeAt 37 x v = Blk.st 37 x v := rfl
theorem St.load (h : St W s kb K st r) : (Blk.ld 37 (.pointer (some ⟨s, 0, none⟩))).run Try.prog W = .ok (.agg (cB 16 st)) W :=
  ld_mid h.b 37 0 16 st _ (fun j hj => by rw [Nat.zero_add]; exact stA_get st kb r j hj) Try.underlying37 rfl (by kernel_rfl)
theorem St.loadRound (h : St W s kb K st r) (q : Nat) (hq : q ≤ 14) : (Blk.ld 37 (.pointer (some ⟨kb, q * 16, none⟩))).run Try.prog W = .ok (.agg (cB 16 (fun i => K (16 * q + i)))) W :=
  ld_mid h.k 37 (q * 16) 16 _ _ (fun j hj => by rw [cB_get _ _ _ (by omega), Nat.mul_comm q 16]) Try.underlying37 rfl (by kernel_rfl)
/-- Of what is there, the block s alone has turned. -/
structure Keeps (s : Nat) (w w' : World) : Prop where
  below : Below s w w'
  rest : ∀ k, k < w.heap.size → k ≠ s → w'.heap[k]? = w.heap[k]?
theorem Keeps.refl (s : Nat) (w : World) : Keeps s w w := ⟨Below.refl s w, fun _ _ _ => rfl⟩
theorem Keeps.trans {s : Nat} {a b c : World} (h : Keeps s a b) (k : Keeps s b c) : Keeps s a c :=
  ⟨h.below.trans k.below, fun i hi hs => (k.rest i (Nat.lt_of_lt_of_le hi h.below.size) hs).trans (h.rest i hi hs)⟩
theorem Keeps.drew {s : Nat} {a w : World} (h : Keeps s a w) : Keeps s a w.drew := ⟨h.below.drew, h.rest⟩
theorem Keeps.drewN {s : Nat} {a w : World} (h : Keeps s a w) (n : Nat) : Keeps s a (w.drewN n) := ⟨h.below.trans ⟨rfl, rfl, rfl, Nat.le_refl _, fun _ _ => rfl⟩, h.rest⟩
theorem Keeps.alloc {s : Nat} {a w : World} (h : Keeps s a w) (hs : s ≤ w.heap.size) (o : Obj) : Keeps s a (w.alloc o) :=
  ⟨h.below.alloc hs o, fun k hk hn => (Below.heap_alloc _ _ _ (Nat.lt_of_lt_of_le hk h.below.size)).trans (h.rest k hk hn)⟩
theorem Keeps.setCell {s : Nat} {a w : World} (h : Keeps s a w) {p : Addr} (hp : p.block = s) (u : Value) : Keeps s a (w.setCell p u) :=
  ⟨h.below.setCell (Nat.le_of_eq hp.symm) u, fun k hk hn => (Below.heap_setCell _ _ _ _ (fun e => hn (e.trans hp))).trans (h.rest k hk hn)⟩
theorem Keeps.is {s b : Nat} {w w' : World} {cs : Array Value} {T : TypeId} (h : Keeps s w w') (hi : Blk.Is w b cs T) (hn : b ≠ s) : Blk.Is w' b cs T := (h.rest b hi.lt hn).trans hi
end Go.Proofs.Ytbebmbcjddibaaa.Aes
namespace Go.Proofs.Ytbebmbcjddibaaa.Aes
set_option linter.unusedVariables false
set_option linter.unusedSimpArgs false
open Go.RowKit Go.Proofs.YtbebmbcjddibaaaW.PrintWords Go.Proofs.YtbebmbcjddibaaaW.PrintLast Go.Proofs.YtbebmbcjddibaaaW.PrintMore
open Gf Gfi Poly
attribute [local go_sem ↓] ld23 st23

/-- Places whose turn (p) has come have the new byte. -/
def upto (p : Nat → Nat) (f g : Nat → B) (i : Nat) : Nat → B := fun q => if p q < i then f q else g q
theorem upto_zero (p : Nat → Nat) (f g : Nat → B) (q : Nat) : g q = upto p f g 0 q := by unfold upto; rw [if_neg (Nat.not_lt_zero _)]
theorem upto_self (p : Nat → Nat) (f g : Nat → B) (q i : Nat) (h : p q = i) : upto p f g i q = g q := by unfold upto; rw [if_neg (by omega)]
theorem upto_next (p : Nat → Nat) (f g : Nat → B) (i z : Nat) (hz : p z = i) (hi : ∀ q, q < 16 → p q = i → q = z) (q : Nat) (hq : q < 16) : updB (upto p f g i) z (f z) q = upto p f g (i + 1) q := by
  unfold updB upto
  by_cases e : q = z
  · subst e
    rw [if_pos rfl, if_pos (by omega)]
  · rw [if_neg e]
    by_cases e2 : p q < i
    · rw [if_pos e2, if_pos (by omega)]
    · rw [if_neg e2, if_neg (fun h => e (hi q hq (by omega)))]
theorem upto_end (p : Nat → Nat) (f g : Nat → B) (n q : Nat) (h : p q < n) : upto p f g n q = f q := by unfold upto; rw [if_pos h]
theorem idx23 (cs : Array Value) (i : Nat) (h : i < 16) (b : Int) (hb : cs[i]? = some (.int .u8 b)) (W : World) : (Instr.index 37 (.agg cs) (.int .i64 (i : Int))).run Try.prog W = .ok (.int .u8 b) W := by
  have h1 : (0 : Int) ≤ (i : Int) ∧ (i : Int) < (16 : Int) := by omega
  have hs : (sizeOf 5).run Try.prog W = .ok 1 W := by kernel_rfl
  have ha : (isAgg 5).run Try.prog W = .ok false W := by kernel_rfl
  simp [Instr.index, asIntOf, run_underlying Try.underlying37, h, Sem.run_bind, hs, part, ha, hb, Result.andThen]

set_option maxRecDepth 100000 in
set_option maxHeartbeats 2000000 in
theorem add_calls (s kb r : Nat) (K st : Nat → B) (w : World) (h : St w s kb K st r) (hr : r ≤ 14) :
    Calls Try.prog 44 #[.pointer (some ⟨s, 0, none⟩)] w fun e w' => e = .returned (.tuple #[]) ∧ St w' s kb K (addS K r st) r ∧ Keeps s w w' := by
  have x16 := h.key
  have x17 := h.round
  have hl := h.drew.loadRound r hr
  have H := Lib.hid h
  clear h
  go_enter Try.func44, Try.ntmps44
  go_wp2
  go_region
  have H1 := Lib.hid (H.out.drew)
  have HB1 : Hid (Keeps s w w.drew) := (Keeps.refl s w).drew
  clear hl x16 x17 H
  generalize w.drew = w1 at *
  generalize hka : cB 16 (fun i => K (16 * r + i)) = ka
  have HKA : Hid (∀ i, i < 16 → ka[i]? = some (.int .u8 (ofB (K (16 * r + i))))) := fun i hi => by rw [← hka]; exact cB_get 16 _ i hi
  clear hka
  go_wp2_with fail
  go_loopw [2, 3, 16] (fun v2 v3 v16 wr => ∃ (i : Nat), i ≤ 16 ∧ v16 = .int .i64 (i : Int) ∧ Hid (St wr s kb K (upto id (addS K r st) st i) r) ∧ Hid (Keeps s w wr)) (fun _ _ v16 _ => 16 - (intOf v16).toNat)
  case atStart => exact ⟨0, by omega, rfl, H1.out.congr (fun q _ => upto_zero _ _ _ q), HB1⟩
  case round =>
    clear H1 HB1
    obtain ⟨i, hi, rfl, HS, HB⟩ := hrel
    by_cases hlt : i < 16
    · have hk2 := idx23 ka i hlt _ (HKA.out i hlt) wr
      have hx := HS.out.at_ i hlt
      rw [upto_self id _ _ i i rfl] at hx
      have hf := HS.out.free i
      have hxor : Go.bits .xor .u8 (ofB (st i)) (ofB (K (16 * r + i))) = ofB (addS K r st i) := by rw [bits_xor]; rfl
      have HV : Hid (addS K r st i = st i ^^^ K (16 * r + i)) := rfl
      generalize hy : st i = y at *
      generalize K (16 * r + i) = z at *
      go_wp2
      go_region
      go_wp2
      go_roundw
      case rel => exact ⟨i + 1, by omega, by go_num, (HS.out.drew.set i hlt (addS K r st i)).congr (fun q hq => upto_next id _ _ i i rfl (fun q _ h => h) q hq), (HB.out.drew).setCell rfl _⟩
      case measure => simp [intOf]; omega
    · obtain rfl : i = 16 := by omega
      go_wp2
      go_end0
      exact ⟨rfl, HS.out.congr (fun q hq => upto_end id _ _ 16 q hq), HB.out⟩
set_option maxRecDepth 100000 in
set_option maxHeartbeats 2000000 in
theorem swap_calls (s kb r : Nat) (K st : Nat → B) (w : World) (h : St w s kb K st r) :
    Calls Try.prog 45 #[.pointer (some ⟨s, 0, none⟩)] w fun e w' => e = .returned (.tuple #[]) ∧ St w' s kb K (swapS K st) r ∧ Keeps s w w' := by
  have hl := h.load
  have H := Lib.hid h
  clear h
  go_enter Try.func45, Try.ntmps45
  go_wp2_with fail
  have HB1 : Hid (Keeps s w w) := Keeps.refl s w
  clear hl
  generalize hka : cB 16 st = ka
  have HKA : Hid (∀ i, i < 16 → ka[i]? = some (.int .u8 (ofB (st i)))) := fun i hi => by rw [← hka]; exact cB_get 16 _ i hi
  clear hka
  go_loopw [2, 3, 8] (fun v2 v3 v8 wr => ∃ (i : Nat), i ≤ 16 ∧ v8 = .int .i64 (i : Int) ∧ Hid (St wr s kb K (upto id (swapS K st) st i) r) ∧ Hid (Keeps s w wr)) (fun _ _ v8 _ => 16 - (intOf v8).toNat)
  case atStart => exact ⟨0, by omega, rfl, H.out.congr (fun q _ => upto_zero _ _ _ q), HB1⟩
  case round =>
    clear H HB1
    obtain ⟨i, hi, rfl, HS, HB⟩ := hrel
    by_cases hlt : i < 16
    · have hk2 := idx23 ka i hlt _ (HKA.out i hlt) wr
      have hx16 := HS.out.key
      have hx := HS.out.at_ i hlt
      have hf := HS.out.free i
      have hy := HS.out.atKey (240 + (st i).toNat) (by have := (st i).isLt; omega)
      have hyr := ofB_range (st i)
      have hyr1 := hyr.1
      have hyr2 := hyr.2
      have ey : (ofB (st i)).toNat = (st i).toNat := by simp [ofB]
      have hv : K (240 + (st i).toNat) = swapS K st i := rfl
      rw [hv, ← ey] at hy
      rw [upto_self id _ _ i i rfl] at hx
      clear hyr hv ey
      generalize ofB (st i) = y at *
      go_wp2
      go_region
      go_wp2
      go_roundw
      case rel => exact ⟨i + 1, by omega, by go_num, (HS.out.drew.set i hlt (swapS K st i)).congr (fun q hq => upto_next id _ _ i i rfl (fun q _ h => h) q hq), (HB.out.drew).setCell rfl _⟩
      case measure => simp [intOf]; omega
    · obtain rfl : i = 16 := by omega
      go_wp2
      go_end0
      exact ⟨rfl, HS.out.congr (fun q hq => upto_end id _ _ 16 q hq), HB.out⟩
end Go.Proofs.Ytbebmbcjddibaaa.Aes
namespace Go.Proofs.Ytbebmbcjddibaaa.Aes
set_option linter.unusedVariables false
set_option linter.unusedSimpArgs false
open Go.RowKit Go.Proofs.YtbebmbcjddibaaaW.PrintWords Go.Proofs.YtbebmbcjddibaaaW.PrintLast Go.Proofs.YtbebmbcjddibaaaW.PrintMore
open Gf Gfi Poly
attribute [local go_sem ↓] ld23 st23

theorem cB_cell {W : World} {b : Nat} {f : Nat → B} {T : TypeId} (h : Blk.Is W b (cB 16 f) T) (i : Nat) (hi : i < 16) : W.cell? ⟨b, i, none⟩ = some (.int .u8 (ofB (f i))) := by rw [h.cell, cB_get _ _ _ hi]
theorem st_new (w : World) (f : Nat → B) : (Blk.st 37 (.pointer (some ⟨w.heap.size, 0, none⟩)) (.agg (cB 16 f))).run Try.prog (w.alloc (.cells #[.int .u8 0, .int .u8 0, .int .u8 0, .int .u8 0, .int .u8 0, .int .u8 0, .int .u8 0, .int .u8 0, .int .u8 0, .int .u8 0, .int .u8 0, .int .u8 0, .int .u8 0, .int .u8 0, .int .u8 0, .int .u8 0] 37)) = .ok () (w.alloc (.cells (cB 16 f) 37)) :=
  run_storeAt_new w 37 _ _ (by rw [cB_size]; kernel_rfl) (by rw [cB_size]; rfl) (cB_one 16 f)
/-- Where a byte is taken from. -/
def sg (i : Nat) : Nat := (i + 4 * (i % 4)) % 16
def sgi (i : Nat) : Nat := (i + 12 * (i % 4)) % 16
theorem sg_lt (i : Nat) : sg i < 16 := Nat.mod_lt _ (by decide)
theorem sgi_sg : ∀ i, i < 16 → sgi (sg i) = i := by decide
theorem sg_sgi : ∀ i, i < 16 → sg (sgi i) = i := by decide
theorem sgi_lt (i : Nat) : sgi i < 16 := Nat.mod_lt _ (by decide)
theorem un_val (st : Nat → B) : ∀ i, i < 16 → st i = unshiftS st ((i + 4 * (i % 4)) % 16) := fun i hi => by
  have h : (((i + 4 * (i % 4)) % 16) + 12 * (((i + 4 * (i % 4)) % 16) % 4)) % 16 = i := sgi_sg i hi
  unfold unshiftS
  rw [h]
theorem un_uniq (i : Nat) (hi : i < 16) : ∀ q, q < 16 → sgi q = i → q = (i + 4 * (i % 4)) % 16 := fun q hq h => by
  have := sg_sgi q hq
  rw [h] at this
  exact this.symm
set_option maxRecDepth 100000 in
set_option maxHeartbeats 2000000 in
theorem shift_calls (s kb r : Nat) (K st : Nat → B) (w : World) (h : St w s kb K st r) :
    Calls Try.prog 46 #[.pointer (some ⟨s, 0, none⟩)] w fun e w' => e = .returned (.tuple #[]) ∧ St w' s kb K (shiftS st) r ∧ Keeps s w w' := by
  have hl := h.load
  have hst := st_new w st
  have HI := Lib.hid (Blk.Is.new w (cB 16 st) 37)
  have HB1 : Hid (Keeps s w (w.alloc (.cells (cB 16 st) 37))) := (Keeps.refl s w).alloc (by have := h.b.lt; omega) _
  have HN : Hid (w.heap.size ≠ s) := fun e => by have := h.b.lt; omega
  have H := Lib.hid (h.alloc (.cells (cB 16 st) 37))
  clear h
  go_enter Try.func46, Try.ntmps46
  go_wp2_with fail
  clear hl hst
  generalize w.alloc (.cells (cB 16 st) 37) = w1 at *
  generalize w.heap.size = g at *
  go_loopw [3, 8] (fun v3 v8 wr => ∃ (i : Nat), i ≤ 16 ∧ v8 = .int .i64 (i : Int) ∧ Hid (St wr s kb K (upto id (shiftS st) st i) r) ∧ Hid (Blk.Is wr g (cB 16 st) 37) ∧ Hid (Keeps s w wr)) (fun _ v8 _ => 16 - (intOf v8).toNat)
  case atStart => exact ⟨0, by omega, rfl, H.out.congr (fun q _ => upto_zero _ _ _ q), HI, HB1⟩
  case round =>
    clear H HB1 HI
    obtain ⟨i, hi, rfl, HS, HG, HB⟩ := hrel
    by_cases hlt : i < 16
    · have hx := HS.out.at_ (i) (hlt)
      have hf := HS.out.free (i)
      have hy := cB_cell HG.out ((i + 4 * (i % 4)) % 16) (sg_lt i)
      have hv : st ((i + 4 * (i % 4)) % 16) = shiftS st (i) := rfl
      rw [hv] at hy
      rw [upto_self id _ _ (i) i (rfl)] at hx
      have HGN : Hid (∀ v, Blk.Is (wr.drew.setCell ⟨s, i, none⟩ v) g (cB 16 st) 37) := fun v => HG.out.drew.other (by exact HN.out) v
      have HNX := Lib.hid ((HS.out.drew.set (i) (hlt) (shiftS st (i))).congr (fun q hq => upto_next id (shiftS st) st i (i) (rfl) (fun q _ h => h) q hq))
      clear hv
      go_wp2
      go_region
      go_wp2
      go_roundw
      case rel => exact ⟨i + 1, by omega, by go_num, HNX, HGN.out _, (HB.out.drew).setCell rfl _⟩
      case measure => simp [intOf]; omega
    · obtain rfl : i = 16 := by omega
      go_wp2
      go_end0
      exact ⟨rfl, HS.out.congr (fun q hq => upto_end _ _ _ 16 q (by first | exact hq | exact sgi_lt q)), HB.out⟩
end Go.Proofs.Ytbebmbcjddibaaa.Aes
namespace Go.Proofs.Ytbebmbcjddibaaa.Aes
set_option linter.unusedVariables false
set_option linter.unusedSimpArgs false
open Go.RowKit Go.Proofs.YtbebmbcjddibaaaW.PrintWords Go.Proofs.YtbebmbcjddibaaaW.PrintLast Go.Proofs.YtbebmbcjddibaaaW.PrintMore
open Gf Gfi Poly
theorem ld4 (x : Value) : Instr.loadAt 62 x = Blk.ld 62 x := rfl
theorem st4 (x v : Value) : Instr.storeAt 62 x v = Blk.st 62 x v := rfl
attribute [local go_sem ↓] ld4 st4

def mixS (st : Nat → B) : Nat → B := fun q => st q ^^^ ((((st (q / 4 * 4) ^^^ st (q / 4 * 4 + 1)) ^^^ st (q / 4 * 4 + 2)) ^^^ st (q / 4 * 4 + 3)) ^^^ xt (st q ^^^ st (q / 4 * 4 + (q + 1) % 4)))
theorem st4_new (w : World) (f : Nat → B) : (Blk.st 62 (.pointer (some ⟨w.heap.size, 0, none⟩)) (.agg (cB 4 f))).run Try.prog (w.alloc (.cells #[.int .u8 0, .int .u8 0, .int .u8 0, .int .u8 0] 62)) = .ok () (w.alloc (.cells (cB 4 f) 62)) :=
  run_storeAt_new w 62 _ _ (by rw [cB_size]; kernel_rfl) (by rw [cB_size]; rfl) (cB_one 4 f)
theorem cB4_cell {W : World} {b : Nat} {f : Nat → B} {T : TypeId} (h : Blk.Is W b (cB 4 f) T) (i : Nat) (hi : i < 4) : W.cell? ⟨b, i, none⟩ = some (.int .u8 (ofB (f i))) := by rw [h.cell, cB_get _ _ _ hi]
theorem double_calls (x : B) (w : World) : Calls Try.prog 53 #[.int .u8 (ofB x)] w fun e w' => e = .returned (.int .u8 (ofB (xt x))) ∧ Drawn0 w w' :=
  PA.aes_double.calls (ofB x) (ofB (xt x)) w (by unfold PA.aes_double.f; rw [dbl_ofB])

theorem cut4 (s c : Nat) (h : c ≤ 12) (W : World) : (Instr.sliceAt 37 (.pointer (some ⟨s, 0, none⟩)) (some (.int .i64 (c : Int))) (some (.int .i64 ((c : Int) + 4))) none).run Try.prog W = .ok (.slice (some ⟨s, c, none⟩) 4 (16 - c)) W := by
  have hl : Try.prog.arrayLen 37 = 16 := by kernel_rfl
  have hs : (sizeOf (Try.prog.elem 37)).run Try.prog W = .ok 1 W := by kernel_rfl
  rw [run_sliceAt_array_lh W 37 ⟨s, 0, none⟩ (by kernel_rfl) .i64 .i64 (c : Int) ((c : Int) + 4) (by omega) (by omega) (by rw [hl]; omega), hs, hl]
  have e1 : ((c : Int) + 4).toNat = c + 4 := by omega
  simp only [Result.andThen, slicedAt, e1, Int.toNat_natCast]
  rw [if_neg (by omega), Nat.mul_one, Nat.add_sub_cancel_left, Addr.add_mid, Nat.zero_add]
theorem arr4 (a : Addr) (n : Nat) (W : World) : (Instr.arrayAt 62 (.slice (some a) 4 n)).run Try.prog W = .ok (.pointer (some a)) W := run_arrayAt W 62 5 4 (some a) 4 n Try.underlying62 (Nat.le_refl 4)

set_option maxRecDepth 100000 in
theorem mix_last (s kb : Nat) (K st : Nat → B) (w : World) (h : St w s kb K st 14) :
    Calls Try.prog 47 #[.pointer (some ⟨s, 0, none⟩)] w fun e w' => e = .returned (.tuple #[]) ∧ w' = w := by
  have x17 : w.cell? ⟨s, 17, none⟩ = some (.int .i64 14) := h.round
  clear h
  go_enter Try.func47, Try.ntmps47
  go_wp2
  refine bodyPost_ret (results_none rfl _ _ _) rfl ?_
  exact ⟨rfl, rfl⟩
set_option maxRecDepth 100000 in
set_option maxHeartbeats 2000000 in
theorem mix_calls (s kb r : Nat) (K st : Nat → B) (w : World) (h : St w s kb K st r) (hr : r ≠ 14) :
    Calls Try.prog 47 #[.pointer (some ⟨s, 0, none⟩)] w fun e w' => e = .returned (.tuple #[]) ∧ St w' s kb K (mixS st) r ∧ Keeps s w w' := by
  have x17 := h.round
  have hrb : ((r : Int) == 14) = false := beq_eq_false_iff_ne.mpr (by omega)
  have H := Lib.hid h
  clear h hr
  go_enter Try.func47, Try.ntmps47
  go_wp2_with fail
  clear x17
  go_loopw [2, 3, 4, 5, 35] (fun v2 v3 v4 v5 v35 wr => ∃ (c : Nat), c ≤ 16 ∧ v2 = .int .i64 (c : Int) ∧ Hid (c % 4 = 0) ∧ Hid (St wr s kb K (upto id (mixS st) st c) r) ∧ Hid (Keeps s w wr)) (fun v2 _ _ _ _ _ => 16 - (intOf v2).toNat)
  case atStart => exact ⟨0, by omega, rfl, rfl, H.out.congr (fun q _ => upto_zero _ _ _ q), Keeps.refl _ _⟩
  case round =>
    clear H
    obtain ⟨c, hc, rfl, HC, HS, HB⟩ := hrel
    by_cases hlt : c < 16
    · have hc12 : c ≤ 12 := by have := HC.out; omega
      have hl4 := ld_mid HS.out.b 62 c 4 (fun i => st (c + i)) _ (fun j hj => by rw [stA_get _ _ _ _ (by omega)]; unfold upto; rw [if_neg (by show ¬ id (c + j) < c; simp)]) Try.underlying62 rfl (by kernel_rfl)
      have hsl := cut4 s c hc12 wr
      have har := arr4 ⟨s, c, none⟩ (16 - c) wr
      have hst := st4_new wr (fun i => st (c + i))
      have HG := Lib.hid (Blk.Is.new wr (cB 4 (fun i => st (c + i))) 62)
      have HS1 := Lib.hid (HS.out.alloc (.cells (cB 4 (fun i => st (c + i))) 62))
      have HB1 : Hid (Keeps s w (wr.alloc (.cells (cB 4 (fun i => st (c + i))) 62))) := HB.out.alloc (by have := HS.out.b.lt; omega) _
      have HN : Hid (wr.heap.size ≠ s) := fun e => by have := HS.out.b.lt; omega
      have a0 : (wr.alloc (.cells (cB 4 (fun i => st (c + i))) 62)).cell? ⟨wr.heap.size, 0, none⟩ = some (.int .u8 (ofB (st c))) := cB4_cell HG.out 0 (by decide)
      have a1 := cB4_cell HG.out 1 (by decide)
      have a2 := cB4_cell HG.out 2 (by decide)
      have a3 := cB4_cell HG.out 3 (by decide)
      have x1 := bits_xor (st c) (st (c + 1))
      have x2 := bits_xor (st c ^^^ st (c + 1)) (st (c + 2))
      have x3 := bits_xor ((st c ^^^ st (c + 1)) ^^^ st (c + 2)) (st (c + 3))
      have HAL : Hid (((st c ^^^ st (c + 1)) ^^^ st (c + 2)) ^^^ st (c + 3) = ((st c ^^^ st (c + 1)) ^^^ st (c + 2)) ^^^ st (c + 3)) := rfl
      go_wp2_with fail
      clear hl4 hsl har hst a0 a1 a2 a3 x1 x2 x3
      generalize wr.alloc (.cells (cB 4 (fun i => st (c + i))) 62) = wi at *
      generalize wr.heap.size = g at *
      obtain ⟨al, hal⟩ : ∃ al, al = ((st c ^^^ st (c + 1)) ^^^ st (c + 2)) ^^^ st (c + 3) := ⟨_, rfl⟩
      rw [← hal]
      have HAL2 := Lib.hid hal
      clear hal HS HB HAL
      go_loopw [5, 35] (fun v5 v35 wl => ∃ (rr : Nat), rr ≤ 4 ∧ v35 = .int .i64 (rr : Int) ∧ Hid (St wl s kb K (upto id (mixS st) st (c + rr)) r) ∧ Hid (Blk.Is wl g (cB 4 (fun i => st (c + i))) 62) ∧ Hid (Keeps s w wl)) (fun _ v35 _ => 4 - (intOf v35).toNat)
      case atStart => exact ⟨0, by omega, rfl, HS1.out, HG, HB1⟩
      case round =>
        clear HS1 HG HB1
        obtain ⟨rr, hrr, rfl, HS, HG, HB⟩ := hrel
        by_cases hl : rr < 4
        · obtain ⟨q, hq⟩ : ∃ q, q = c + rr := ⟨_, rfl⟩
          obtain ⟨z, hz⟩ : ∃ z, z = (rr + 1) % 4 := ⟨_, rfl⟩
          have hq16 : q < 16 := by omega
          have hz4 : z < 4 := by omega
          have w1f : IntKind.i64.wrap ((c : Int) + (rr : Int)) = (q : Int) := by rw [hq, IntWalk.i64_in _ (by omega)]; omega
          have w3f : Int.tmod (wrap64 ((rr : Int) + 1)) 4 = (z : Int) := by rw [IntWalk.wrap64_in _ (by omega), hz]; rfl
          have hqI : (q : Int) < 16 := by omega
          have hzI : (z : Int) < 4 := by omega
          have hmx : mixS st q = st q ^^^ (al ^^^ xt (st (c + rr) ^^^ st (c + z))) := by
            have hc4 : q / 4 * 4 = c := by have := HC.out; omega
            have hz2 : (q + 1) % 4 = z := by have := HC.out; omega
            unfold mixS
            rw [hc4, hz2, ← HAL2.out, hq]
          have HMX := Lib.hid hmx
          have hcur : upto id (mixS st) st (c + rr) q = st q := upto_self id _ _ q _ hq
          have HNX : Hid (∀ W, St W s kb K (upto id (mixS st) st (c + rr)) r → St (W.setCell ⟨s, q, none⟩ (.int .u8 (ofB (mixS st q)))) s kb K (upto id (mixS st) st (c + (rr + 1))) r) := fun W h => (h.set q hq16 (mixS st q)).congr (fun p hp => by
            have := upto_next id (mixS st) st (c + rr) q hq (fun p _ h => by rw [hq]; exact h) p hp
            exact this)
          have HGN : Hid (∀ W v, Blk.Is W g (cB 4 (fun i => st (c + i))) 62 → Blk.Is (W.setCell ⟨s, q, none⟩ v) g (cB 4 (fun i => st (c + i))) 62) := fun W v h => h.other (by exact HN.out) v
          have HF : Hid (wr.cell? ⟨s, q, none⟩ = some (.int .u8 (ofB (st q))) ∧ wr.cell? ⟨g, rr, none⟩ = some (.int .u8 (ofB (st (c + rr)))) ∧ wr.cell? ⟨g, z, none⟩ = some (.int .u8 (ofB (st (c + z))))) := ⟨by rw [← hcur]; exact HS.out.at_ q hq16, cB4_cell HG.out rr hl, cB4_cell HG.out z hz4⟩
          have x1f := bits_xor (st (c + rr)) (st (c + z))
          have x2f := bits_xor al (xt (st (c + rr) ^^^ st (c + z)))
          have x3f := bits_xor (st q) (al ^^^ xt (st (c + rr) ^^^ st (c + z)))
          rw [← hmx] at x3f
          clear hmx hcur hq hz
          generalize mixS st q = mq at *
          generalize st q = y at *
          generalize st (c + rr) = u at *
          generalize st (c + z) = v at *
          go_wp2_with fail
          -- region 9
          refine start_ (n := 25) (S := fun w' => w'.cell? ⟨s, q, none⟩ = some (.int .u8 (ofB y)) ∧ w'.cell? ⟨g, rr, none⟩ = some (.int .u8 (ofB u)) ∧ w'.cell? ⟨g, z, none⟩ = some (.int .u8 (ofB v))) (ds := [24]) #[false, false, false, false, false, false, false, false, false, false, false, false, false, false, false, false, false, false, false, false, false, false, false, false, false] (by kernel_rfl) rfl rfl ⟨HF.out.1, HF.out.2.1, HF.out.2.2⟩ (fun hHeld => ?_)
          have HS2 := Lib.hid HS.out.drew
          have HG2 := Lib.hid HG.out.drew
          have HB2 := Lib.hid (HB.out.drew)
          have HF2 : Hid (wr.drew.cell? ⟨s, q, none⟩ = some (.int .u8 (ofB y)) ∧ wr.drew.cell? ⟨g, rr, none⟩ = some (.int .u8 (ofB u)) ∧ wr.drew.cell? ⟨g, z, none⟩ = some (.int .u8 (ofB v))) := HF.out
          clear HS HG HB HF
          generalize wr.drew = w2 at *
          refine pure_ (i := 0) (N := some 38) (v := ?_) (a' := ?_) #[true, false, false, false, false, false, false, false, false, false, false, false, false, false, false, false, false, false, false, false, false, false, false, false, false] rfl rfl (by kernel_rfl) (fun _ _ _ h => h) (Or.inl ⟨by rfl, ?_⟩) ?_ ?_
          rotate_left
          · intro w'
            go_simp
            with_reducible rfl
          rotate_left
          · simp only [Act.put, List.setIfInBounds_toArray, List.set_cons_zero, List.set_cons_succ, i64_w, i32_w]
            rfl
          refine pure_ (i := 1) (N := some 39) (v := ?_) (a' := ?_) #[true, true, false, false, false, false, false, false, false, false, false, false, false, false, false, false, false, false, false, false, false, false, false, false, false] rfl rfl (by kernel_rfl) (fun _ _ _ h => h) (Or.inl ⟨by rfl, ?_⟩) ?_ ?_
          rotate_left
          · intro w'
            go_simp
            with_reducible rfl
          rotate_left
          · simp only [Act.put, List.setIfInBounds_toArray, List.set_cons_zero, List.set_cons_succ, i64_w, i32_w]
            rfl
          refine pure_ (i := 2) (N := some 40) (v := ?_) (a' := ?_) #[true, true, true, false, false, false, false, false, false, false, false, false, false, false, false, false, false, false, false, false, false, false, false, false, false] rfl rfl (by kernel_rfl) (fun _ _ _ h => h) (Or.inl ⟨by rfl, ?_⟩) ?_ ?_
          rotate_left
          · intro w'
            go_simp
            with_reducible rfl
          rotate_left
          · simp only [Act.put, List.setIfInBounds_toArray, List.set_cons_zero, List.set_cons_succ, i64_w, i32_w]
            rfl
          refine pure_ (i := 3) (N := some 41) (v := ?_) (a' := ?_) #[true, true, true, true, false, false, false, false, false, false, false, false, false, false, false, false, false, false, false, false, false, false, false, false, false] rfl rfl (by kernel_rfl) (fun _ _ _ h => h) (Or.inl ⟨by rfl, ?_⟩) ?_ ?_
          rotate_left
          · intro w'
            go_simp
            with_reducible rfl
          rotate_left
          · simp only [Act.put, List.setIfInBounds_toArray, List.set_cons_zero, List.set_cons_succ, i64_w, i32_w]
            rfl
          refine pure_ (i := 4) (N := some 42) (v := ?_) (a' := ?_) #[true, true, true, true, true, false, false, false, false, false, false, false, false, false, false, false, false, false, false, false, false, false, false, false, false] rfl rfl (by kernel_rfl) (fun _ _ _ h => h) (Or.inl ⟨by rfl, ?_⟩) ?_ ?_
          rotate_left
          · intro w'
            go_simp
            with_reducible rfl
          rotate_left
          · simp only [Act.put, List.setIfInBounds_toArray, List.set_cons_zero, List.set_cons_succ, i64_w, i32_w]
            rfl
          refine pure_ (i := 5) (N := some 43) (v := ?_) (a' := ?_) #[true, true, true, true, true, true, false, false, false, false, false, false, false, false, false, false, false, false, false, false, false, false, false, false, false] rfl rfl (by kernel_rfl) (fun _ _ _ h => h) (Or.inl ⟨by rfl, ?_⟩) ?_ ?_
          rotate_left
          · intro w'
            go_simp
            with_reducible rfl
          rotate_left
          · simp only [Act.put, List.setIfInBounds_toArray, List.set_cons_zero, List.set_cons_succ, i64_w, i32_w]
            rfl
          refine pure_ (i := 6) (N := some 44) (v := ?_) (a' := ?_) #[true, true, true, true, true, true, true, false, false, false, false, false, false, false, false, false, false, false, false, false, false, false, false, false, false] rfl rfl (by kernel_rfl) (fun _ _ _ h => h) (Or.inl ⟨by rfl, ?_⟩) ?_ ?_
          rotate_left
          · intro w'
            go_simp
            with_reducible rfl
          rotate_left
          · simp only [Act.put, List.setIfInBounds_toArray, List.set_cons_zero, List.set_cons_succ, i64_w, i32_w]
            rfl
          refine pure_ (i := 8) (N := some 46) (v := ?_) (a' := ?_) #[true, true, true, true, true, true, true, false, true, false, false, false, false, false, false, false, false, false, false, false, false, false, false, false, false] rfl rfl (by kernel_rfl) (fun _ _ _ h => h) (Or.inl ⟨by rfl, ?_⟩) ?_ ?_
          rotate_left
          · intro w'
            go_simp
            with_reducible rfl
          rotate_left
          · simp only [Act.put, List.setIfInBounds_toArray, List.set_cons_zero, List.set_cons_succ, i64_w, i32_w]
            rfl
          refine pure_ (i := 9) (N := some 47) (v := ?_) (a' := ?_) #[true, true, true, true, true, true, true, false, true, true, false, false, false, false, false, false, false, false, false, false, false, false, false, false, false] rfl rfl (by kernel_rfl) (fun _ _ _ h => h) (Or.inl ⟨by rfl, ?_⟩) ?_ ?_
          rotate_left
          · intro w'
            go_simp
            with_reducible rfl
          rotate_left
          · simp only [Act.put, List.setIfInBounds_toArray, List.set_cons_zero, List.set_cons_succ, i64_w, i32_w]
            rfl
          refine pure_ (i := 10) (N := some 48) (v := ?_) (a' := ?_) #[true, true, true, true, true, true, true, false, true, true, true, false, false, false, false, false, false, false, false, false, false, false, false, false, false] rfl rfl (by kernel_rfl) (fun _ _ _ h => h) (Or.inl ⟨by rfl, ?_⟩) ?_ ?_
          rotate_left
          · intro w'
            go_simp
            with_reducible rfl
          rotate_left
          · simp only [Act.put, List.setIfInBounds_toArray, List.set_cons_zero, List.set_cons_succ, i64_w, i32_w]
            rfl
          refine pure_ (i := 12) (N := some 50) (v := ?_) (a' := ?_) #[true, true, true, true, true, true, true, false, true, true, true, false, true, false, false, false, false, false, false, false, false, false, false, false, false] rfl rfl (by kernel_rfl) (fun _ _ _ h => h) (Or.inl ⟨by rfl, ?_⟩) ?_ ?_
          rotate_left
          · intro w'
            go_simp
            with_reducible rfl
          rotate_left
          · simp only [Act.put, List.setIfInBounds_toArray, List.set_cons_zero, List.set_cons_succ, i64_w, i32_w]
            rfl
          refine pure_ (i := 13) (N := some 51) (v := ?_) (a' := ?_) #[true, true, true, true, true, true, true, false, true, true, true, false, true, true, false, false, false, false, false, false, false, false, false, false, false] rfl rfl (by kernel_rfl) (fun _ _ _ h => h) (Or.inl ⟨by rfl, ?_⟩) ?_ ?_
          rotate_left
          · intro w'
            go_simp
            with_reducible rfl
          rotate_left
          · simp only [Act.put, List.setIfInBounds_toArray, List.set_cons_zero, List.set_cons_succ, i64_w, i32_w]
            rfl
          refine pure_ (i := 14) (N := some 52) (v := ?_) (a' := ?_) #[true, true, true, true, true, true, true, false, true, true, true, false, true, true, true, false, false, false, false, false, false, false, false, false, false] rfl rfl (by kernel_rfl) (fun _ _ _ h => h) (Or.inl ⟨by rfl, ?_⟩) ?_ ?_
          rotate_left
          · intro w'
            go_simp
            with_reducible rfl
          rotate_left
          · simp only [Act.put, List.setIfInBounds_toArray, List.set_cons_zero, List.set_cons_succ, i64_w, i32_w]
            rfl
          refine pure_ (i := 15) (N := some 53) (v := ?_) (a' := ?_) #[true, true, true, true, true, true, true, false, true, true, true, false, true, true, true, true, false, false, false, false, false, false, false, false, false] rfl rfl (by kernel_rfl) (fun _ _ _ h => h) (Or.inl ⟨by rfl, ?_⟩) ?_ ?_
          rotate_left
          · intro w'
            go_simp
            with_reducible rfl
          rotate_left
          · simp only [Act.put, List.setIfInBounds_toArray, List.set_cons_zero, List.set_cons_succ, i64_w, i32_w]
            rfl
          refine pure_ (i := 21) (N := some 59) (v := ?_) (a' := ?_) #[true, true, true, true, true, true, true, false, true, true, true, false, true, true, true, true, false, false, false, false, false, true, false, false, false] rfl rfl (by kernel_rfl) (fun _ _ _ h => h) (Or.inl ⟨by rfl, ?_⟩) ?_ ?_
          rotate_left
          · intro w'
            go_simp
            with_reducible rfl
          rotate_left
          · simp only [Act.put, List.setIfInBounds_toArray, List.set_cons_zero, List.set_cons_succ, i64_w, i32_w]
            rfl
          refine pure_ (i := 22) (N := some 60) (v := ?_) (a' := ?_) #[true, true, true, true, true, true, true, false, true, true, true, false, true, true, true, true, false, false, false, false, false, true, true, false, false] rfl rfl (by kernel_rfl) (fun _ _ _ h => h) (Or.inl ⟨by rfl, ?_⟩) ?_ ?_
          rotate_left
          · intro w'
            go_simp
            with_reducible rfl
          rotate_left
          · simp only [Act.put, List.setIfInBounds_toArray, List.set_cons_zero, List.set_cons_succ, i64_w, i32_w]
            rfl
          refine take_ (i := 7) (N := some 45) (v := ?_) (a' := ?_) #[true, true, true, true, true, true, true, true, true, true, true, false, true, true, true, true, false, false, false, false, false, true, true, false, false] rfl rfl (by kernel_rfl) (fun _ _ _ h => h) (Or.inl ⟨by rfl, ?_⟩) hHeld ?_ ?_
          rotate_left
          · rintro w' ⟨s0, s1, s2⟩
            go_simp
            with_reducible rfl
          rotate_left
          · simp only [Act.put, List.setIfInBounds_toArray, List.set_cons_zero, List.set_cons_succ, i64_w, i32_w]
            rfl
          refine take_ (i := 11) (N := some 49) (v := ?_) (a' := ?_) #[true, true, true, true, true, true, true, true, true, true, true, true, true, true, true, true, false, false, false, false, false, true, true, false, false] rfl rfl (by kernel_rfl) (fun _ _ _ h => h) (Or.inl ⟨by rfl, ?_⟩) hHeld ?_ ?_
          rotate_left
          · rintro w' ⟨s0, s1, s2⟩
            go_simp
            with_reducible rfl
          rotate_left
          · simp only [Act.put, List.setIfInBounds_toArray, List.set_cons_zero, List.set_cons_succ, i64_w, i32_w]
            rfl
          refine take_ (i := 16) (N := some 54) (v := ?_) (a' := ?_) #[true, true, true, true, true, true, true, true, true, true, true, true, true, true, true, true, true, false, false, false, false, true, true, false, false] rfl rfl (by kernel_rfl) (fun _ _ _ h => h) (Or.inl ⟨by rfl, ?_⟩) hHeld ?_ ?_
          rotate_left
          · rintro w' ⟨s0, s1, s2⟩
            go_simp
            with_reducible rfl
          rotate_left
          · simp only [Act.put, List.setIfInBounds_toArray, List.set_cons_zero, List.set_cons_succ, i64_w, i32_w]
            rfl
          refine pure_ (i := 17) (N := some 55) (v := ?_) (a' := ?_) #[true, true, true, true, true, true, true, true, true, true, true, true, true, true, true, true, true, true, false, false, false, true, true, false, false] rfl rfl (by kernel_rfl) (fun _ _ _ h => h) (Or.inl ⟨by rfl, ?_⟩) ?_ ?_
          rotate_left
          · intro w'
            go_simp
            with_reducible rfl
          rotate_left
          · simp only [Act.put, List.setIfInBounds_toArray, List.set_cons_zero, List.set_cons_succ, i64_w, i32_w]
            rfl
          refine one_ (i := 18) (N := some 56) #[true, true, true, true, true, true, true, true, true, true, true, true, true, true, true, true, true, true, true, false, false, true, true, false, false] rfl rfl (by kernel_rfl) (by decide) (fun K hK => ?_)
          refine goes_ Try.func53 (by kernel_rfl) rfl #[.int .u8 (ofB (u ^^^ v))] (by rfl) rfl rfl (by simp only [List.map_toArray, List.map_cons, List.map_nil]; rfl) ?_
          with_reducible refine (double_calls (u ^^^ v) w2).mono ?_
          rintro e w3 ⟨rfl, nd, rfl⟩
          refine ⟨_, rfl, ?_⟩
          have HS3 := Lib.hid (HS2.out.drewN nd)
          have HG3 := Lib.hid (HG2.out.drewN nd)
          have HB3 := Lib.hid (HB2.out.drewN nd)
          have HF3 : Hid ((w2.drewN nd).cell? ⟨s, q, none⟩ = some (.int .u8 (ofB y)) ∧ (w2.drewN nd).cell? ⟨g, rr, none⟩ = some (.int .u8 (ofB u)) ∧ (w2.drewN nd).cell? ⟨g, z, none⟩ = some (.int .u8 (ofB v))) := HF2.out
          clear HS2 HG2 HB2 HF2
          generalize w2.drewN nd = w3 at *
          refine hK.out _ _ ⟨(HF3.out.1), (HF3.out.2.1), (HF3.out.2.2)⟩ (fun hHeld => ?_)
          clear hK K
          refine norm_ (a' := ?_) ?_ ?_
          rotate_left
          · show Act.put _ (some 56) _ = _
            simp only [Act.put, List.setIfInBounds_toArray, List.set_cons_zero, List.set_cons_succ, i64_w, i32_w]
            rfl
          refine pure_ (i := 19) (N := some 57) (v := ?_) (a' := ?_) #[true, true, true, true, true, true, true, true, true, true, true, true, true, true, true, true, true, true, true, true, false, true, true, false, false] rfl rfl (by kernel_rfl) (fun _ _ _ h => h) (Or.inl ⟨by rfl, ?_⟩) ?_ ?_
          rotate_left
          · intro w'
            go_simp
            with_reducible rfl
          rotate_left
          · simp only [Act.put, List.setIfInBounds_toArray, List.set_cons_zero, List.set_cons_succ, i64_w, i32_w]
            rfl
          refine pure_ (i := 20) (N := some 58) (v := ?_) (a' := ?_) #[true, true, true, true, true, true, true, true, true, true, true, true, true, true, true, true, true, true, true, true, true, true, true, false, false] rfl rfl (by kernel_rfl) (fun _ _ _ h => h) (Or.inl ⟨by rfl, ?_⟩) ?_ ?_
          rotate_left
          · intro w'
            go_simp
            with_reducible rfl
          rotate_left
          · simp only [Act.put, List.setIfInBounds_toArray, List.set_cons_zero, List.set_cons_succ, i64_w, i32_w]
            rfl
          refine pure_ (i := 23) (N := some 61) (v := ?_) (a' := ?_) #[true, true, true, true, true, true, true, true, true, true, true, true, true, true, true, true, true, true, true, true, true, true, true, true, false] rfl rfl (by kernel_rfl) (fun _ _ _ h => h) (Or.inl ⟨by rfl, ?_⟩) ?_ ?_
          rotate_left
          · intro w'
            go_simp
            with_reducible rfl
          rotate_left
          · simp only [Act.put, List.setIfInBounds_toArray, List.set_cons_zero, List.set_cons_succ, i64_w, i32_w]
            rfl
          refine last_ (i := 24) (N := none) #[true, true, true, true, true, true, true, true, true, true, true, true, true, true, true, true, true, true, true, true, true, true, true, true, true] rfl rfl (by kernel_rfl) (by decide) (fun K hK => ?_)
          have z0 := HF3.out.1
          have f0 := HS3.out.free q
          refine skip_ (w1 := ?_) (by rfl) rfl ?_ ?_
          rotate_left
          · go_simp
            rfl
          refine hK.out _ _ ?_
          clear hK K
          refine done_ (by kernel_rfl) ?_
          -- behind it
          go_wp2
          go_roundw
          case rel => exact ⟨rr + 1, by omega, by go_num, HNX.out _ HS3.out, HGN.out _ _ HG3.out, HB3.out.setCell rfl _⟩
          case measure => simp [intOf]; omega
        · obtain rfl : rr = 4 := by omega
          have HC4 : Hid ((c + 4) % 4 = 0) := by show _ = _; have := HC.out; omega
          go_wp2
          refine ⟨⟨c + 4, by omega, by first | go_num | rfl, HC4, HS, HB⟩, ?_⟩
          simp [intOf]
          omega
    · obtain rfl : c = 16 := by omega
      go_wp2
      go_end0
      exact ⟨rfl, HS.out.congr (fun q hq => upto_end id _ _ 16 q hq), HB.out⟩
/-- mix, whatever the round. -/
def mixR (r : Nat) (st : Nat → B) : Nat → B := if r = 14 then st else mixS st
theorem mix_any (s kb r : Nat) (K st : Nat → B) (w : World) (h : St w s kb K st r) :
    Calls Try.prog 47 #[.pointer (some ⟨s, 0, none⟩)] w fun e w' => e = .returned (.tuple #[]) ∧ St w' s kb K (mixR r st) r ∧ Keeps s w w' := by
  unfold mixR
  by_cases hr : r = 14
  · subst hr
    rw [if_pos rfl]
    refine (mix_last s kb K st w h).mono ?_
    rintro e w' ⟨rfl, rfl⟩
    exact ⟨rfl, h, Keeps.refl _ _⟩
  · rw [if_neg hr]
    exact mix_calls s kb r K st w h hr
def unmixR (r : Nat) (st : Nat → B) : Nat → B := mixR r (mixR r (mixR r st))
end Go.Proofs.Ytbebmbcjddibaaa.Aes
