/- What is said here: the contracts that gcm's laws use: a key opened, a text copied, compared, sealed, opened; a Sealing in memory. -/
import Derived.Test.YtbebmbcjddibaaaGo
import Derived.Test.YtbebmbcjddibaaaGv
namespace Go.Proofs.Ytbebmbcjddibaaa.Gcm
set_option linter.unusedVariables false
set_option linter.unusedSimpArgs false
open Go.RowKit Go.Proofs.YtbebmbcjddibaaaW.PrintWords Go.Proofs.YtbebmbcjddibaaaW.PrintLast Go.Proofs.YtbebmbcjddibaaaW.PrintMore Go.Proofs.Ytbebmbcjddibaaa.PG Gf Gfi Poly AesF Aes Lng
/-- What is told of a key: its cells K, and the blocks E. -/
structure Ciph (key K : Nat → B) (E : (Nat → B) → Nat → B) : Prop where
  block : ∀ (b : Nat → B) (w : World), Calls Try.prog 35 #[.agg (cB 752 K), .agg (cB 16 b)] w fun e w' => e = .returned (.agg (cB 16 (E b))) ∧ Below w.heap.size w w'
  exp : ∀ w : World, Calls Try.prog 22 #[.agg (cB 32 key)] w fun e w' => e = .returned (.agg (cB 752 K)) ∧ Below w.heap.size w w'
  rblock : ∀ (b : Nat → B) (w : World), Calls Try.prog 21 #[.agg (cB 752 K), .agg (cB 16 b)] w fun e w' => e = .returned (.agg (cB 16 (E b))) ∧ Below w.heap.size w w'
  rexp : ∀ w : World, Calls Try.prog 20 #[.agg (cB 32 key)] w fun e w' => e = .returned (.agg (cB 752 K)) ∧ Below w.heap.size w w'
  ec : ∀ {f g : Nat → B}, Eq16 f g → Eq16 (E f) (E g)
  inj : ∀ {f g : Nat → B}, Eq16 (E f) (E g) → Eq16 f g
theorem ciph (key : Nat → B) : Ciph key (keyK key) (encB (keyK key)) where
  block := fun b w => block_calls (keyK key) b w
  exp := expand_calls key
  rblock := fun b w => by
    have h := rblock_calls (keyK key) b w
    rw [rbl_eq _ _ _ (Nat.le_refl _)] at h
    exact h
  rexp := rexpand_calls key
  ec := fun h => bl_c h 14
  inj := fun {f g} h => ((back_block (keyK_ready key) f).symm.trans (add_c 0 (bk_c h 14))).trans (back_block (keyK_ready key) g)
theorem open_key (key : Nat → B) : ∃ K E, Ciph key K E := ⟨_, _, ciph key⟩
/-! ### Texts -/
theorem row_txt {w : World} {base : Nat} {v : Value} {l : List Int} (h : Row.Is w base v l) (hb : ∀ x ∈ l, 0 ≤ x ∧ x < 256) (hf : l.length < 1000000) : ∃ A c, v = .slice A l.length c ∧ Txt w A c l := by
  obtain ⟨A, c, rfl, hle, hC⟩ := h.reads
  exact ⟨A, c, rfl, hC, hle, hb, hf⟩
theorem copy_f (l : List Int) (h : l.length ≤ 1000000) : ciboriumref00_CopyBytes.f l = some l := by
  unfold ciboriumref00_CopyBytes.f
  rw [if_pos (by simp; omega)]
  rfl
theorem copy_t {w : World} {A : Option Addr} {c : Nat} {l : List Int} (h : Txt w A c l) : Calls Try.prog 17 #[.slice A l.length c] w fun e w' =>
    ∃ A' c', e = .returned (.slice A' l.length c') ∧ Txt w' A' c' l ∧ Row.Is w' w.heap.size (.slice A' l.length c') l ∧ Below w.heap.size w w' := by
  have hf := h.few
  refine (ciboriumref00_CopyBytes.calls A c l l w h.row h.le (copy_f l (by omega))).mono ?_
  rintro e w' ⟨v, rfl, hR, hb⟩
  have hI := Row.of_R hR
  obtain ⟨A', c', rfl, hT⟩ := row_txt hI h.by_ h.few
  exact ⟨A', c', rfl, hT, hI, hb⟩
theorem eq_t {w : World} {A1 A2 : Option Addr} {c1 c2 : Nat} {l1 l2 : List Int} (h1 : Txt w A1 c1 l1) (h2 : Txt w A2 c2 l2) (hd : l1 = l2) : Calls Try.prog 12 #[.slice A1 l1.length c1, .slice A2 l2.length c2] w fun e w' =>
    e = .returned (.bool true) ∧ Below w.heap.size w w' := by
  refine (ciboriumref00_EqBytes.calls A1 c1 l1 A2 c2 l2 true w h1.row h1.le h2.row h2.le (by subst hd; unfold ciboriumref00_EqBytes.f; simp)).mono ?_
  rintro e w' ⟨rfl, hb⟩
  exact ⟨rfl, hb.below⟩
theorem tag_len (E : (Nat → B) → Nat → B) (nonce : Nat → B) (ad text : List Int) : (tagL E nonce ad text).length = 16 := bytesL_len _
theorem tag_by (E : (Nat → B) → Nat → B) (nonce : Nat → B) (ad text : List Int) : ∀ x ∈ tagL E nonce ad text, 0 ≤ x ∧ x < 256 := fun x hx => by
  unfold tagL bytesL at hx
  obtain ⟨j, _, rfl⟩ := List.mem_map.1 hx
  exact ofB_range _
theorem seal_len (E : (Nat → B) → Nat → B) (nonce : Nat → B) (ad l : List Int) : (sealL E nonce ad l).length = l.length + 16 := by
  unfold sealL
  rw [List.length_append, body_len, tag_len]
theorem seal_by (E : (Nat → B) → Nat → B) (nonce : Nat → B) (ad l : List Int) : ∀ x ∈ sealL E nonce ad l, 0 ≤ x ∧ x < 256 := fun x hx => by
  unfold sealL at hx
  rcases List.mem_append.1 hx with h | h
  · exact body_by _ _ _ x h
  · exact tag_by _ _ _ _ x h
theorem seal_t {key nonce K : Nat → B} {E : (Nat → B) → Nat → B} (hC : Ciph key K E) {w : World} {A1 A2 : Option Addr} {c1 c2 : Nat} {l1 l2 : List Int} (h1 : Txt w A1 c1 l1) (h2 : Txt w A2 c2 l2) (hs1 : l1.length ≤ 65536) (hs2 : l2.length ≤ 65536) (s : List Int) (hs : s = sealL E nonce l1 l2) :
    Calls Try.prog 10 #[.agg (cB 32 key), .agg (cB 12 nonce), .slice A1 l1.length c1, .slice A2 l2.length c2] w fun e w' =>
      ∃ A' c', e = .returned (.slice A' s.length c') ∧ Txt w' A' c' s ∧ Row.Is w' w.heap.size (.slice A' s.length c') s ∧ Below w.heap.size w w' := by
  subst hs
  refine (seal_calls key nonce K E hC.block hC.exp A1 A2 c1 c2 l1 l2 w h1 h2 hs1 hs2).mono ?_
  rintro e w' ⟨v, rfl, hI, hb⟩
  obtain ⟨A', c', rfl, hT⟩ := row_txt hI (seal_by _ _ _ _) (by rw [seal_len]; omega)
  exact ⟨A', c', rfl, hT, hI, hb⟩
/-- What is opened of s: whether its tag is right; its bytes. -/
def tagOk (E : (Nat → B) → Nat → B) (nonce : Nat → B) (ad s : List Int) (n : Nat) : Bool := eq16 (tagF (E (ctr nonce 1)) (ghash (blkW (E z16)) ad (s.take n))) (chunk s n)
theorem open_t {key nonce K : Nat → B} {E : (Nat → B) → Nat → B} (hC : Ciph key K E) {w : World} {A1 A2 : Option Addr} {c1 c2 : Nat} {l1 l2 : List Int} (h1 : Txt w A1 c1 l1) (h2 : Txt w A2 c2 l2) (n : Nat) (hn : l2.length = n + 16) (hs1 : l1.length ≤ 65536) (hs2 : n ≤ 65536)
    (d : Bool) (hd : d = tagOk E nonce l1 l2 n) (p : List Int) (hp : p = if d = true then bodyL E nonce (l2.take n) else []) (code : Int) (hc : code = if d = true then 0 else 60) :
    Calls Try.prog 15 #[.agg (cB 32 key), .agg (cB 12 nonce), .slice A1 l1.length c1, .slice A2 l2.length c2] w fun e w' =>
      ∃ A' c', e = .returned (.tuple #[.slice A' p.length c', .int .i64 code]) ∧ Txt w' A' c' p ∧ Row.Is w' w.heap.size (.slice A' p.length c') p ∧ Below w.heap.size w w' := by
  refine (open_calls key nonce K E hC.block hC.exp A1 A2 c1 c2 l1 l2 w h1 h2 n hn hs1 hs2 d hd).mono ?_
  rintro e w' ⟨v, rfl, hI, hb⟩
  rw [← hp] at hI
  have hby : ∀ x ∈ p, 0 ≤ x ∧ x < 256 := fun x hx => by
    rw [hp] at hx
    split at hx
    · exact body_by _ _ _ x hx
    · exact absurd hx (by simp)
  have hlen : p.length < 1000000 := by
    rw [hp]
    split
    · rw [body_len, List.length_take]; omega
    · exact Nat.zero_lt_succ _
  obtain ⟨A', c', rfl, hT⟩ := row_txt hI hby hlen
  exact ⟨A', c', by rw [hc], hT, hI, hb⟩
/-! ### What is sealed, in plain words -/
theorem bits_back (a b : B) : (a ^^^ b) ^^^ b = a := by rw [BitVec.xor_assoc, BitVec.xor_self, BitVec.xor_zero]
theorem body_at (E : (Nat → B) → Nat → B) (nonce : Nat → B) (l : List Int) (j : Nat) (hj : j < l.length) : (bodyL E nonce l).getD j 0 = outB E nonce 1 l j := by
  unfold bodyL outL
  rw [List.getD_eq_getElem?_getD, List.getElem?_map, List.getElem?_range hj]; rfl
theorem body_body (E : (Nat → B) → Nat → B) (nonce : Nat → B) (l : List Int) (hl : ∀ x ∈ l, 0 ≤ x ∧ x < 256) : bodyL E nonce (bodyL E nonce l) = l := by
  apply List.ext_getElem
  · rw [body_len, body_len]
  · intro j h1 h2
    have hj : j < (bodyL E nonce l).length := by rw [body_len] at h1; exact h1
    have e1 := body_at E nonce (bodyL E nonce l) j hj
    have hm := List.getElem_mem h2
    have e2 : l.getD j 0 = l[j] := by rw [List.getD_eq_getElem?_getD, List.getElem?_eq_getElem h2]; rfl
    have e3 : (bodyL E nonce (bodyL E nonce l)).getD j 0 = (bodyL E nonce (bodyL E nonce l))[j] := by rw [List.getD_eq_getElem?_getD, List.getElem?_eq_getElem h1]; rfl
    rw [← e3, e1]
    unfold outB
    rw [body_at E nonce l j h2]
    unfold outB
    rw [toB_ofB, bits_back, e2]
    exact ofB_toB (hl _ hm).1 (hl _ hm).2
theorem take_seal (E : (Nat → B) → Nat → B) (nonce : Nat → B) (ad l : List Int) : (sealL E nonce ad l).take l.length = bodyL E nonce l := by
  unfold sealL
  rw [List.take_append_of_le_length (by rw [body_len]; exact Nat.le_refl _), List.take_of_length_le (by rw [body_len]; exact Nat.le_refl _)]
theorem chunk_seal (E : (Nat → B) → Nat → B) (nonce : Nat → B) (ad l : List Int) : Eq16 (chunk (sealL E nonce ad l) l.length) (tagF (E (ctr nonce 1)) (ghash (blkW (E z16)) ad (bodyL E nonce l))) := fun i hi => by
  unfold chunk sealL
  rw [List.getD_eq_getElem?_getD, List.getElem?_append_right (by rw [body_len]; omega), body_len, Nat.add_sub_cancel_left, ← List.getD_eq_getElem?_getD]
  unfold tagL
  rw [bytesL_at _ _ hi, toB_ofB]
/-- What is sealed is opened. -/
theorem ok_seal (E : (Nat → B) → Nat → B) (nonce : Nat → B) (ad l : List Int) : tagOk E nonce ad (sealL E nonce ad l) l.length = true := by
  unfold tagOk
  rw [eq16_iff, take_seal]
  exact (chunk_seal E nonce ad l).symm
/-! ### A Sealing -/
def seC (key nonce : Nat → B) (a b : Value) : Array Value := cB 32 key ++ cB 12 nonce ++ #[a, b]
theorem seC_size (key nonce : Nat → B) (a b : Value) : (seC key nonce a b).size = 46 := by simp [seC, cB_size]
theorem seC_key (key nonce : Nat → B) (a b : Value) (i : Nat) (hi : i < 32) : (seC key nonce a b)[i]? = some (.int .u8 (ofB (key i))) := by
  unfold seC
  rw [Array.append_assoc, Array.getElem?_append_left (by rw [cB_size]; exact hi), cB_get 32 _ _ hi]
theorem seC_nonce (key nonce : Nat → B) (a b : Value) (i : Nat) (hi : i < 12) : (seC key nonce a b)[32 + i]? = some (.int .u8 (ofB (nonce i))) := by
  unfold seC
  rw [Array.append_assoc, Array.getElem?_append_right (by rw [cB_size]; omega), cB_size, Nat.add_sub_cancel_left, Array.getElem?_append_left (by rw [cB_size]; exact hi), cB_get 12 _ _ hi]
theorem seC_a (key nonce : Nat → B) (a b : Value) : (seC key nonce a b)[44]? = some a := by
  unfold seC
  rw [Array.getElem?_append_right (by simp [cB_size])]
  simp [cB_size]
theorem seC_b (key nonce : Nat → B) (a b : Value) : (seC key nonce a b)[45]? = some b := by
  unfold seC
  rw [Array.getElem?_append_right (by simp [cB_size])]
  simp [cB_size]
theorem ld_mid {w : World} {g n : Nat} {cs : Array Value} {T : TypeId} (h : Blk.Is w g cs T) (o : Nat) (f : Nat → B) (ty : TypeId) (d : TypeDesc) (hc : ∀ i, i < n → cs[o + i]? = some (.int .u8 (ofB (f i))))
    (hd : (match d with | .struct _ | .array _ _ => true | _ => false) = true) (hu : Try.prog.underlying ty = some d) (hi : (Try.prog.info? ty).map (·.size) = some n) :
    (Blk.ld ty (.pointer (some ⟨g, o, none⟩))).run Try.prog w = .ok (.agg (cB n f)) w := by
  have e : cB n f = ((cB n f).toList).toArray := by simp
  rw [e]
  refine ld_any w ⟨g, o, none⟩ ty _ d ?_ hd hu (by rw [Array.length_toList, cB_size]; exact hi)
  intro j v hj
  rw [Array.getElem?_toList] at hj
  by_cases hjn : j < n
  · rw [cB_get n _ _ hjn] at hj
    injection hj with hj
    subst hj
    rw [Addr.add_mid, h.cell]
    exact hc j hjn
  · rw [Array.getElem?_eq_none (by rw [cB_size]; omega)] at hj
    exact absurd hj (by simp)
/-- A Sealing in a block of the call's own: the block alone. -/
structure Bx (base w : World) (key nonce : Nat → B) (a b : Value) : Prop where
  box : Blk.Is w base.heap.size (seC key nonce a b) 26
  below : Below base.heap.size base w
theorem Bx.start (base : World) (key nonce : Nat → B) (a b : Value) : Bx base (base.alloc (.cells (seC key nonce a b) 26)) key nonce a b := ⟨Blk.Is.new _ _ _, (Below.refl _ base).alloc (Nat.le_refl _) _⟩
theorem Bx.step {base w w' : World} {key nonce : Nat → B} {a b : Value} (h : Bx base w key nonce a b) (hb : Below w.heap.size w w') : Bx base w' key nonce a b := ⟨h.box.below hb h.box.lt, h.below.trans (hb.mono (Nat.le_of_lt h.box.lt))⟩
theorem Bx.la {base w : World} {key nonce : Nat → B} {a b : Value} (h : Bx base w key nonce a b) : w.cell? ⟨base.heap.size, 44, none⟩ = some a := by rw [h.box.cell]; exact seC_a _ _ _ _
theorem Bx.lb {base w : World} {key nonce : Nat → B} {a b : Value} (h : Bx base w key nonce a b) : w.cell? ⟨base.heap.size, 45, none⟩ = some b := by rw [h.box.cell]; exact seC_b _ _ _ _
/-- What is told of a text that a law has been handed. -/
structure Arg (w : World) (A : Option Addr) (c : Nat) (l : List Int) : Prop where
  row : Kd.C (Kd.int .u8) w A l.length l
  le : l.length ≤ c
  by_ : ∀ x ∈ l, 0 ≤ x ∧ x < 256
theorem Arg.txt {w : World} {A : Option Addr} {c : Nat} {l : List Int} (h : Arg w A c l) (hf : l.length < 1000000) : Txt w A c l := ⟨h.row, h.le, h.by_, hf⟩
/-- A Sealing that a law has been handed, in a block of the call's own; its two texts. -/
structure Se (base w : World) (key nonce : Nat → B) (A1 A2 : Option Addr) (c1 c2 : Nat) (l1 l2 : List Int) : Prop where
  box : Blk.Is w base.heap.size (seC key nonce (.slice A1 l1.length c1) (.slice A2 l2.length c2)) 26
  below : Below base.heap.size base w
  t1 : Txt w A1 c1 l1
  t2 : Txt w A2 c2 l2
variable {base w w' : World} {key nonce : Nat → B} {A1 A2 : Option Addr} {c1 c2 : Nat} {l1 l2 : List Int}
theorem Se.lt (h : Se base w key nonce A1 A2 c1 c2 l1 l2) : base.heap.size < w.heap.size := h.box.lt
theorem Se.step (h : Se base w key nonce A1 A2 c1 c2 l1 l2) (hb : Below w.heap.size w w') : Se base w' key nonce A1 A2 c1 c2 l1 l2 :=
  ⟨h.box.below hb h.box.lt, h.below.trans (hb.mono (Nat.le_of_lt h.box.lt)), h.t1.below hb, h.t2.below hb⟩
theorem Se.drew (h : Se base w key nonce A1 A2 c1 c2 l1 l2) : Se base w.drew key nonce A1 A2 c1 c2 l1 l2 :=
  ⟨h.box.drew, h.below.drew, ⟨Kd.C_below h.t1.row (Below.refl _ w).drew, h.t1.le, h.t1.by_, h.t1.few⟩, ⟨Kd.C_below h.t2.row (Below.refl _ w).drew, h.t2.le, h.t2.by_, h.t2.few⟩⟩
theorem Se.start (h1 : Txt base A1 c1 l1) (h2 : Txt base A2 c2 l2) : Se base (base.alloc (.cells (seC key nonce (.slice A1 l1.length c1) (.slice A2 l2.length c2)) 26)) key nonce A1 A2 c1 c2 l1 l2 := by
  have hb := (Below.refl _ base).alloc (Nat.le_refl _) (.cells (seC key nonce (.slice A1 l1.length c1) (.slice A2 l2.length c2)) 26)
  exact ⟨Blk.Is.new _ _ _, hb, h1.below hb, h2.below hb⟩
theorem Se.lk (h : Se base w key nonce A1 A2 c1 c2 l1 l2) : (Blk.ld 22 (.pointer (some ⟨base.heap.size, 0, none⟩))).run Try.prog w = .ok (.agg (cB 32 key)) w :=
  ld_mid h.box 0 key _ _ (fun i hi => by rw [Nat.zero_add]; exact seC_key _ _ _ _ i hi) rfl Try.underlying22 (by kernel_rfl)
theorem Se.ln (h : Se base w key nonce A1 A2 c1 c2 l1 l2) : (Blk.ld 23 (.pointer (some ⟨base.heap.size, 32, none⟩))).run Try.prog w = .ok (.agg (cB 12 nonce)) w :=
  ld_mid h.box 32 nonce _ _ (fun i hi => seC_nonce _ _ _ _ i hi) rfl Try.underlying23 (by kernel_rfl)
theorem Se.la (h : Se base w key nonce A1 A2 c1 c2 l1 l2) : w.cell? ⟨base.heap.size, 44, none⟩ = some (.slice A1 l1.length c1) := by rw [h.box.cell]; exact seC_a _ _ _ _
theorem Se.lb (h : Se base w key nonce A1 A2 c1 c2 l1 l2) : w.cell? ⟨base.heap.size, 45, none⟩ = some (.slice A2 l2.length c2) := by rw [h.box.cell]; exact seC_b _ _ _ _
end Go.Proofs.Ytbebmbcjddibaaa.Gcm
