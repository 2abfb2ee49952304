/- What is said here: the program's key stream: what each call of it tells. -/
import Derived.Test.YtbebmbcjddibaaaGh
namespace Go.Proofs.Ytbebmbcjddibaaa.Gcm
set_option linter.unusedVariables false
set_option linter.unusedSimpArgs false
open Go.RowKit Go.Proofs.YtbebmbcjddibaaaW.PrintWords Go.Proofs.YtbebmbcjddibaaaW.PrintLast Go.Proofs.YtbebmbcjddibaaaW.PrintMore Go.Proofs.Ytbebmbcjddibaaa.PG Gf Gfi Poly AesF Aes Lng
theorem ld53 (x : Value) : Instr.loadAt 53 x = Blk.ld 53 x := rfl
theorem st53 (x v : Value) : Instr.storeAt 53 x v = Blk.st 53 x v := rfl
attribute [local go_sem ↓] ld53 st53 ld23 st23
/-- The counter block i. -/
def ctr (nonce : Nat → B) (i : Nat) : Nat → B := fun q => if q < 12 then nonce q else BitVec.ofNat 8 (i / 2 ^ (8 * (15 - q)))
/-- A key stream in memory: n calls are behind it. -/
structure Str (w : World) (gn gc gk : Nat) (K nonce : Nat → B) (n : Nat) : Prop where
  num : Blk.Is w gn #[.int .u32 (n : Int)] 70
  blk : ∃ cc : Nat → B, Blk.Is w gc (cB 16 cc) 37 ∧ ∀ q, q < 12 → cc q = nonce q
  key : Blk.Is w gk (cB 752 K) 53
  ne : gn ≠ gc ∧ gn ≠ gk ∧ gc ≠ gk
/-- Of what was there, two blocks alone have turned. -/
structure Two (a b : Nat) (w w' : World) : Prop where
  below : ∀ base, base ≤ a → base ≤ b → base ≤ w.heap.size → Below base w w'
  rest : ∀ k, k < w.heap.size → k ≠ a → k ≠ b → w'.heap[k]? = w.heap[k]?
variable {a b : Nat} {w w' : World}
theorem Two.refl (a b : Nat) (w : World) : Two a b w w := ⟨fun base _ _ _ => Below.refl base w, fun _ _ _ _ => rfl⟩
theorem Two.size (h : Two a b w w') : w.heap.size ≤ w'.heap.size := (h.below 0 (Nat.zero_le _) (Nat.zero_le _) (Nat.zero_le _)).size
theorem Two.drew (h : Two a b w w') : Two a b w w'.drew := ⟨fun base h1 h2 h3 => (h.below base h1 h2 h3).drew, h.rest⟩
theorem Two.alloc (h : Two a b w w') (o : Obj) : Two a b w (w'.alloc o) :=
  ⟨fun base h1 h2 h3 => (h.below base h1 h2 h3).alloc (Nat.le_trans h3 h.size) o, fun k hk h1 h2 => (Below.heap_alloc _ _ _ (Nat.lt_of_lt_of_le hk h.size)).trans (h.rest k hk h1 h2)⟩
theorem Two.set (h : Two a b w w') (hs : a < w.heap.size ∧ b < w.heap.size) {p : Addr} (hp : p.block = a ∨ p.block = b) (u : Value) : Two a b w (w'.setCell p u) :=
  ⟨fun base h1 h2 h3 => (h.below base h1 h2 h3).setCell (by rcases hp with e | e <;> rw [e] <;> assumption) u, fun k hk h1 h2 => (Below.heap_setCell _ _ _ _ (by rcases hp with e | e <;> rw [e] <;> assumption)).trans (h.rest k hk h1 h2)⟩
theorem Two.below_ {w2 : World} (h : Two a b w w') (hb : Below w'.heap.size w' w2) : Two a b w w2 :=
  ⟨fun base h1 h2 h3 => (h.below base h1 h2 h3).trans (hb.mono (Nat.le_trans h3 h.size)), fun k hk h1 h2 => (hb.block k (Nat.lt_of_lt_of_le hk h.size)).trans (h.rest k hk h1 h2)⟩
theorem Two.row (h : Two a b w w') {k : Nat} (hk : w.heap.size ≤ k) (cs : Array Value) : Two a b w (w'.setRow k cs) :=
  ⟨fun base h1 h2 h3 => Blk.below_setRow (h.below base h1 h2 h3) (Nat.le_trans h3 hk) cs, fun j hj h1 h2 => (setRow_other w' k j cs (by omega)).trans (h.rest j hj h1 h2)⟩
theorem Two.trans {w2 : World} (h : Two a b w w') (h2 : Two a b w' w2) : Two a b w w2 :=
  ⟨fun base h1 h3 h4 => (h.below base h1 h3 h4).trans (h2.below base h1 h3 (Nat.le_trans h4 h.size)), fun k hk h1 h3 => (h2.rest k (Nat.lt_of_lt_of_le hk h.size) h1 h3).trans (h.rest k hk h1 h3)⟩
theorem Two.under {w2 : World} {k : Nat} (h : Two a b w w') (hb : Below k w' w2) (hk : w.heap.size ≤ k) : Two a b w w2 :=
  ⟨fun base h1 h2 h3 => (h.below base h1 h2 h3).trans (hb.mono (Nat.le_trans h3 hk)), fun j hj h1 h2 => (hb.block j (Nat.lt_of_lt_of_le hj hk)).trans (h.rest j hj h1 h2)⟩
theorem Two.is (h : Two a b w w') {k : Nat} {cs : Array Value} {T : TypeId} (hi : Blk.Is w k cs T) (h1 : k ≠ a) (h2 : k ≠ b) : Blk.Is w' k cs T := (h.rest k hi.lt h1 h2).trans hi
theorem Str.under {gn gc gk n k : Nat} {K nonce : Nat → B} (h : Str w gn gc gk K nonce n) (hb : Below k w w') (h1 : gn < k) (h2 : gc < k) (h3 : gk < k) : Str w' gn gc gk K nonce n :=
  ⟨h.num.below hb h1, by obtain ⟨cc, h4, h5⟩ := h.blk; exact ⟨cc, h4.below hb h2, h5⟩, h.key.below hb h3, h.ne⟩
theorem Str.alloc {gn gc gk n : Nat} {K nonce : Nat → B} (h : Str w gn gc gk K nonce n) (o : Obj) : Str (w.alloc o) gn gc gk K nonce n :=
  ⟨h.num.alloc o, by obtain ⟨cc, h1, h2⟩ := h.blk; exact ⟨cc, h1.alloc o, h2⟩, h.key.alloc o, h.ne⟩
theorem Str.below {gn gc gk n : Nat} {K nonce : Nat → B} (h : Str w gn gc gk K nonce n) (hb : Below w.heap.size w w') : Str w' gn gc gk K nonce n :=
  ⟨h.num.below hb h.num.lt, by obtain ⟨cc, h1, h2⟩ := h.blk; exact ⟨cc, h1.below hb h1.lt, h2⟩, h.key.below hb h.key.lt, h.ne⟩
theorem Str.keeps {gn gc gk n s : Nat} {K nonce : Nat → B} (h : Str w gn gc gk K nonce n) (hk : Keeps s w w') (h1 : gn ≠ s) (h2 : gc ≠ s) (h3 : gk ≠ s) : Str w' gn gc gk K nonce n :=
  ⟨hk.is h.num h1, by obtain ⟨cc, h4, h5⟩ := h.blk; exact ⟨cc, hk.is h4 h2, h5⟩, hk.is h.key h3, h.ne⟩
theorem byte_of (n s : Nat) (h : n < 4294967296) : IntKind.u8.wrap ((n : Int) / ((2 : Int) ^ s)) = ofB (BitVec.ofNat 8 (n / 2 ^ s)) := by
  have e : ((n : Int) / ((2 : Int) ^ s)) = ((n / 2 ^ s : Nat) : Int) := by simp
  rw [e]
  generalize n / 2 ^ s = m
  show (m : Int) % 256 = _
  unfold ofB
  rw [BitVec.toNat_ofNat]
  omega
set_option maxRecDepth 100000 in
set_option maxHeartbeats 4000000 in
theorem next_calls (gn gc gk : Nat) (K nonce : Nat → B) (E : (Nat → B) → Nat → B) (hE : ∀ (b : Nat → B) (w : World), Calls Try.prog 35 #[.agg (cB 752 K), .agg (cB 16 b)] w fun e w' => e = .returned (.agg (cB 16 (E b))) ∧ Below w.heap.size w w')
    (n : Nat) (hn : n < 1000000) (w : World) (h : Str w gn gc gk K nonce n) :
    Calls Try.prog 34 #[.pointer (some ⟨gn, 0, none⟩), .pointer (some ⟨gc, 0, none⟩), .pointer (some ⟨gk, 0, none⟩)] w fun e w' => e = .returned (.agg (cB 16 (E (ctr nonce (n + 1))))) ∧ Str w' gn gc gk K nonce (n + 1) ∧ Two gn gc w w' := by
  obtain ⟨cc, hcc, hnon⟩ := h.blk
  have c0 : w.cell? ⟨gn, 0, none⟩ = some (.int .u32 (n : Int)) := by rw [h.num.cell]; rfl
  have f0 := h.num.free 0
  have hlt := h.num.lt
  obtain ⟨m, hm⟩ : ∃ m : Nat, m = n + 1 := ⟨_, rfl⟩
  have HM := Lib.hid hm
  clear hm
  have HNON := Lib.hid hnon
  have HNE := Lib.hid h.ne
  have HSZ := Lib.hid (show gn < w.heap.size ∧ gc < w.heap.size from ⟨h.num.lt, hcc.lt⟩)
  have HKZ : Hid (gk ≠ w.heap.size) := fun e => by have := h.key.lt; omega
  have HZN : Hid (w.heap.size ≠ gc) := fun e => by have := HSZ.out; omega
  have hnum := h.num.set 0 (.int .u32 (m : Int))
  have HNw1 : Hid (Blk.Is ((w.setCell ⟨gn, 0, none⟩ (.int .u32 (m : Int))).alloc (.cells (cB 16 z16) 37)) gn #[.int .u32 (m : Int)] 70) := hnum.alloc _
  have HCw1 : Hid (Blk.Is ((w.setCell ⟨gn, 0, none⟩ (.int .u32 (m : Int))).alloc (.cells (cB 16 z16) 37)) gc (cB 16 cc) 37) := (hcc.other (fun e => h.ne.1 e.symm) _).alloc _
  have HKw1 : Hid (Blk.Is ((w.setCell ⟨gn, 0, none⟩ (.int .u32 (m : Int))).alloc (.cells (cB 16 z16) 37)) gk (cB 752 K) 53) := (h.key.other (fun e => h.ne.2.1 e.symm) _).alloc _
  have HZw1 : Hid (Blk.Is ((w.setCell ⟨gn, 0, none⟩ (.int .u32 (m : Int))).alloc (.cells (cB 16 z16) 37)) w.heap.size (cB 16 z16) 37) := by
    have h2 := Blk.Is.new (w.setCell ⟨gn, 0, none⟩ (.int .u32 (m : Int))) (cB 16 z16) 37
    rw [show (w.setCell ⟨gn, 0, none⟩ (.int .u32 (m : Int))).heap.size = w.heap.size by simp] at h2
    exact h2
  have HTw1 : Hid (Two gn gc w ((w.setCell ⟨gn, 0, none⟩ (.int .u32 (m : Int))).alloc (.cells (cB 16 z16) 37))) := ((Two.refl gn gc w).set HSZ.out (p := ⟨gn, 0, none⟩) (Or.inl rfl) _).alloc _
  clear h hcc hnon hnum
  go_enter Try.func34, Try.ntmps34
  go_wp2_with fail
  have hm := HM.out
  have em : (n : Int) + 1 = (m : Int) := by omega
  rw [em, lit16]
  clear c0 f0 em hlt
  generalize (w.setCell ⟨gn, 0, none⟩ (.int .u32 (m : Int))).alloc (.cells (cB 16 z16) 37) = w1 at *
  generalize hgz : w.heap.size = gz at *
  have HGZ := Lib.hid hgz
  clear hgz
  have hm32 : m < 4294967296 := by omega
  have s3 : IntKind.u8.wrap ((m : Int) / 16777216) = ofB (BitVec.ofNat 8 (m / 2 ^ 24)) := byte_of m 24 hm32
  have s2 : IntKind.u8.wrap ((m : Int) / 65536) = ofB (BitVec.ofNat 8 (m / 2 ^ 16)) := byte_of m 16 hm32
  have s1 : IntKind.u8.wrap ((m : Int) / 256) = ofB (BitVec.ofNat 8 (m / 2 ^ 8)) := byte_of m 8 hm32
  have s0 : IntKind.u8.wrap (m : Int) = ofB (BitVec.ofNat 8 m) := by
    show (m : Int) % 256 = _
    unfold ofB
    rw [BitVec.toNat_ofNat]
    omega
  have HCT : Hid (∀ q, q < 16 → updB (updB (updB (updB cc 12 (BitVec.ofNat 8 (m / 2 ^ 24))) 13 (BitVec.ofNat 8 (m / 2 ^ 16))) 14 (BitVec.ofNat 8 (m / 2 ^ 8))) 15 (BitVec.ofNat 8 m) q = ctr nonce m q) := fun q hq => by
    unfold updB ctr
    by_cases h12 : q < 12
    · rw [if_pos h12, if_neg (by omega), if_neg (by omega), if_neg (by omega), if_neg (by omega)]
      exact HNON.out q h12
    · rw [if_neg h12]
      have hq4 : q = 12 ∨ q = 13 ∨ q = 14 ∨ q = 15 := by omega
      rcases hq4 with rfl | rfl | rfl | rfl
      · rfl
      · rfl
      · rfl
      · show BitVec.ofNat 8 m = BitVec.ofNat 8 (m / 2 ^ 0)
        rw [Nat.pow_zero, Nat.div_one]
  clear hm hm32 hn
  generalize (BitVec.ofNat 8 (m / 2 ^ 24) : B) = b3 at *
  generalize (BitVec.ofNat 8 (m / 2 ^ 16) : B) = b2 at *
  generalize (BitVec.ofNat 8 (m / 2 ^ 8) : B) = b1 at *
  generalize (BitVec.ofNat 8 m : B) = b0 at *
  -- region 2
  refine start_ (n := 19) (S := fun w' => w'.cell? ⟨gn, 0, none⟩ = some (.int .u32 (m : Int))) (ds := []) #[false, false, false, false, false, false, false, false, false, false, false, false, false, false, false, false, false, false, false] (by kernel_rfl) rfl rfl ((by rw [HNw1.out.drew.cell]; rfl)) (fun hHeld => ?_)
  have HNw2 := Lib.hid HNw1.out.drew
  have HCw2 := Lib.hid HCw1.out.drew
  have HKw2 := Lib.hid HKw1.out.drew
  have HZw2 := Lib.hid HZw1.out.drew
  have HTw2 := Lib.hid HTw1.out.drew
  clear HNw1 HCw1 HKw1 HZw1 HTw1
  generalize w1.drew = w2 at *
  refine take_ (i := 0) (N := some 6) (v := ?_) (a' := ?_) #[true, false, false, false, false, false, false, false, false, false, false, false, false, false, false, false, false, false, false] rfl rfl (by kernel_rfl) (fun _ _ _ h => h) (Or.inl ⟨by rfl, ?_⟩) hHeld ?_ ?_
  rotate_left
  · intro w' s0
    go_simp
    with_reducible rfl
  rotate_left
  · simp only [Act.put, List.setIfInBounds_toArray, List.set_cons_zero, List.set_cons_succ, i64_w, i32_w]
    rfl
  refine pure_ (i := 1) (N := some 7) (v := ?_) (a' := ?_) #[true, true, false, false, false, false, false, false, false, false, false, false, false, false, false, false, false, false, false] rfl rfl (by kernel_rfl) (fun _ _ _ h => h) (Or.inl ⟨by rfl, ?_⟩) ?_ ?_
  rotate_left
  · intro w'
    go_simp
    with_reducible rfl
  rotate_left
  · simp only [Act.put, List.setIfInBounds_toArray, List.set_cons_zero, List.set_cons_succ, i64_w, i32_w]
    rfl
  refine pure_ (i := 2) (N := some 8) (v := ?_) (a' := ?_) #[true, true, true, false, false, false, false, false, false, false, false, false, false, false, false, false, false, false, false] rfl rfl (by kernel_rfl) (fun _ _ _ h => h) (Or.inl ⟨by rfl, ?_⟩) ?_ ?_
  rotate_left
  · intro w'
    go_simp
    with_reducible rfl
  rotate_left
  · simp only [Act.put, List.setIfInBounds_toArray, List.set_cons_zero, List.set_cons_succ, i64_w, i32_w]
    rfl
  refine pure_ (i := 11) (N := some 17) (v := ?_) (a' := ?_) #[true, true, true, false, false, false, false, false, false, false, false, true, false, false, false, false, false, false, false] rfl rfl (by kernel_rfl) (fun _ _ _ h => h) (Or.inl ⟨by rfl, ?_⟩) ?_ ?_
  rotate_left
  · intro w'
    go_simp
    with_reducible rfl
  rotate_left
  · simp only [Act.put, List.setIfInBounds_toArray, List.set_cons_zero, List.set_cons_succ, i64_w, i32_w]
    rfl
  refine take_ (i := 3) (N := some 9) (v := ?_) (a' := ?_) #[true, true, true, true, false, false, false, false, false, false, false, true, false, false, false, false, false, false, false] rfl rfl (by kernel_rfl) (fun _ _ _ h => h) (Or.inl ⟨by rfl, ?_⟩) hHeld ?_ ?_
  rotate_left
  · intro w' s0
    go_simp
    with_reducible rfl
  rotate_left
  · simp only [Act.put, List.setIfInBounds_toArray, List.set_cons_zero, List.set_cons_succ, i64_w, i32_w]
    rfl
  refine pure_ (i := 4) (N := some 10) (v := ?_) (a' := ?_) #[true, true, true, true, true, false, false, false, false, false, false, true, false, false, false, false, false, false, false] rfl rfl (by kernel_rfl) (fun _ _ _ h => h) (Or.inl ⟨by rfl, ?_⟩) ?_ ?_
  rotate_left
  · intro w'
    go_simp
    with_reducible rfl
  rotate_left
  · simp only [Act.put, List.setIfInBounds_toArray, List.set_cons_zero, List.set_cons_succ, i64_w, i32_w]
    rfl
  refine pure_ (i := 5) (N := some 11) (v := ?_) (a' := ?_) #[true, true, true, true, true, true, false, false, false, false, false, true, false, false, false, false, false, false, false] rfl rfl (by kernel_rfl) (fun _ _ _ h => h) (Or.inl ⟨by rfl, ?_⟩) ?_ ?_
  rotate_left
  · intro w'
    go_simp
    with_reducible rfl
  rotate_left
  · simp only [Act.put, List.setIfInBounds_toArray, List.set_cons_zero, List.set_cons_succ, i64_w, i32_w]
    rfl
  refine take_ (i := 6) (N := some 12) (v := ?_) (a' := ?_) #[true, true, true, true, true, true, true, false, false, false, false, true, false, false, false, false, false, false, false] rfl rfl (by kernel_rfl) (fun _ _ _ h => h) (Or.inl ⟨by rfl, ?_⟩) hHeld ?_ ?_
  rotate_left
  · intro w' s0
    go_simp
    with_reducible rfl
  rotate_left
  · simp only [Act.put, List.setIfInBounds_toArray, List.set_cons_zero, List.set_cons_succ, i64_w, i32_w]
    rfl
  refine pure_ (i := 7) (N := some 13) (v := ?_) (a' := ?_) #[true, true, true, true, true, true, true, true, false, false, false, true, false, false, false, false, false, false, false] rfl rfl (by kernel_rfl) (fun _ _ _ h => h) (Or.inl ⟨by rfl, ?_⟩) ?_ ?_
  rotate_left
  · intro w'
    go_simp
    with_reducible rfl
  rotate_left
  · simp only [Act.put, List.setIfInBounds_toArray, List.set_cons_zero, List.set_cons_succ, i64_w, i32_w]
    rfl
  refine pure_ (i := 8) (N := some 14) (v := ?_) (a' := ?_) #[true, true, true, true, true, true, true, true, true, false, false, true, false, false, false, false, false, false, false] rfl rfl (by kernel_rfl) (fun _ _ _ h => h) (Or.inl ⟨by rfl, ?_⟩) ?_ ?_
  rotate_left
  · intro w'
    go_simp
    with_reducible rfl
  rotate_left
  · simp only [Act.put, List.setIfInBounds_toArray, List.set_cons_zero, List.set_cons_succ, i64_w, i32_w]
    rfl
  refine take_ (i := 9) (N := some 15) (v := ?_) (a' := ?_) #[true, true, true, true, true, true, true, true, true, true, false, true, false, false, false, false, false, false, false] rfl rfl (by kernel_rfl) (fun _ _ _ h => h) (Or.inl ⟨by rfl, ?_⟩) hHeld ?_ ?_
  rotate_left
  · intro w' s0
    go_simp
    with_reducible rfl
  rotate_left
  · simp only [Act.put, List.setIfInBounds_toArray, List.set_cons_zero, List.set_cons_succ, i64_w, i32_w]
    rfl
  refine pure_ (i := 10) (N := some 16) (v := ?_) (a' := ?_) #[true, true, true, true, true, true, true, true, true, true, true, true, false, false, false, false, false, false, false] rfl rfl (by kernel_rfl) (fun _ _ _ h => h) (Or.inl ⟨by rfl, ?_⟩) ?_ ?_
  rotate_left
  · intro w'
    go_simp
    with_reducible rfl
  rotate_left
  · simp only [Act.put, List.setIfInBounds_toArray, List.set_cons_zero, List.set_cons_succ, i64_w, i32_w]
    rfl
  refine one_ (i := 12) (N := none) #[true, true, true, true, true, true, true, true, true, true, true, true, true, false, false, false, false, false, false] rfl rfl (by kernel_rfl) (by decide) (fun K hK => ?_)
  have z0 : w2.cell? ⟨gc, 12, none⟩ = some (.int .u8 (ofB ((cc) 12))) := by rw [HCw2.out.cell]; exact cB_get 16 _ 12 (by decide)
  have fr := HCw2.out.free 12
  refine skip_ (w1 := ?_) (by rfl) rfl ?_ ?_
  rotate_left
  · go_simp
    rfl
  have HCw3 := Lib.hid (HCw2.out.set 12 (.int .u8 (ofB b3)))
  rw [cB_set] at HCw3
  have HNw3 := Lib.hid (HNw2.out.other (a := ⟨gc, 12, none⟩) HNE.out.1 (.int .u8 (ofB b3)))
  have HKw3 := Lib.hid (HKw2.out.other (a := ⟨gc, 12, none⟩) (fun e => HNE.out.2.2 e.symm) (.int .u8 (ofB b3)))
  have HZw3 := Lib.hid (HZw2.out.other (a := ⟨gc, 12, none⟩) HZN.out (.int .u8 (ofB b3)))
  have HTw3 := Lib.hid (HTw2.out.set (by rw [HGZ.out]; exact HSZ.out) (p := ⟨gc, 12, none⟩) (Or.inr rfl) (.int .u8 (ofB b3)))
  clear z0 fr HCw2 HNw2 HKw2 HZw2 HTw2
  generalize w2.setCell ⟨gc, 12, none⟩ (.int .u8 (ofB b3)) = w3 at *
  refine hK.out _ _ ((by rw [HNw3.out.cell]; rfl)) (fun hHeld => ?_)
  clear hK K
  refine pure_ (i := 13) (N := some 18) (v := ?_) (a' := ?_) #[true, true, true, true, true, true, true, true, true, true, true, true, true, true, false, false, false, false, false] rfl rfl (by kernel_rfl) (fun _ _ _ h => h) (Or.inl ⟨by rfl, ?_⟩) ?_ ?_
  rotate_left
  · intro w'
    go_simp
    with_reducible rfl
  rotate_left
  · simp only [Act.put, List.setIfInBounds_toArray, List.set_cons_zero, List.set_cons_succ, i64_w, i32_w]
    rfl
  refine one_ (i := 14) (N := none) #[true, true, true, true, true, true, true, true, true, true, true, true, true, true, true, false, false, false, false] rfl rfl (by kernel_rfl) (by decide) (fun K hK => ?_)
  have z0 : w3.cell? ⟨gc, 13, none⟩ = some (.int .u8 (ofB ((updB cc 12 b3) 13))) := by rw [HCw3.out.cell]; exact cB_get 16 _ 13 (by decide)
  have fr := HCw3.out.free 13
  refine skip_ (w1 := ?_) (by rfl) rfl ?_ ?_
  rotate_left
  · go_simp
    rfl
  have HCw4 := Lib.hid (HCw3.out.set 13 (.int .u8 (ofB b2)))
  rw [cB_set] at HCw4
  have HNw4 := Lib.hid (HNw3.out.other (a := ⟨gc, 13, none⟩) HNE.out.1 (.int .u8 (ofB b2)))
  have HKw4 := Lib.hid (HKw3.out.other (a := ⟨gc, 13, none⟩) (fun e => HNE.out.2.2 e.symm) (.int .u8 (ofB b2)))
  have HZw4 := Lib.hid (HZw3.out.other (a := ⟨gc, 13, none⟩) HZN.out (.int .u8 (ofB b2)))
  have HTw4 := Lib.hid (HTw3.out.set (by rw [HGZ.out]; exact HSZ.out) (p := ⟨gc, 13, none⟩) (Or.inr rfl) (.int .u8 (ofB b2)))
  clear z0 fr HCw3 HNw3 HKw3 HZw3 HTw3
  generalize w3.setCell ⟨gc, 13, none⟩ (.int .u8 (ofB b2)) = w4 at *
  refine hK.out _ _ ((by rw [HNw4.out.cell]; rfl)) (fun hHeld => ?_)
  clear hK K
  refine pure_ (i := 15) (N := some 19) (v := ?_) (a' := ?_) #[true, true, true, true, true, true, true, true, true, true, true, true, true, true, true, true, false, false, false] rfl rfl (by kernel_rfl) (fun _ _ _ h => h) (Or.inl ⟨by rfl, ?_⟩) ?_ ?_
  rotate_left
  · intro w'
    go_simp
    with_reducible rfl
  rotate_left
  · simp only [Act.put, List.setIfInBounds_toArray, List.set_cons_zero, List.set_cons_succ, i64_w, i32_w]
    rfl
  refine one_ (i := 16) (N := none) #[true, true, true, true, true, true, true, true, true, true, true, true, true, true, true, true, true, false, false] rfl rfl (by kernel_rfl) (by decide) (fun K hK => ?_)
  have z0 : w4.cell? ⟨gc, 14, none⟩ = some (.int .u8 (ofB ((updB (updB cc 12 b3) 13 b2) 14))) := by rw [HCw4.out.cell]; exact cB_get 16 _ 14 (by decide)
  have fr := HCw4.out.free 14
  refine skip_ (w1 := ?_) (by rfl) rfl ?_ ?_
  rotate_left
  · go_simp
    rfl
  have HCw5 := Lib.hid (HCw4.out.set 14 (.int .u8 (ofB b1)))
  rw [cB_set] at HCw5
  have HNw5 := Lib.hid (HNw4.out.other (a := ⟨gc, 14, none⟩) HNE.out.1 (.int .u8 (ofB b1)))
  have HKw5 := Lib.hid (HKw4.out.other (a := ⟨gc, 14, none⟩) (fun e => HNE.out.2.2 e.symm) (.int .u8 (ofB b1)))
  have HZw5 := Lib.hid (HZw4.out.other (a := ⟨gc, 14, none⟩) HZN.out (.int .u8 (ofB b1)))
  have HTw5 := Lib.hid (HTw4.out.set (by rw [HGZ.out]; exact HSZ.out) (p := ⟨gc, 14, none⟩) (Or.inr rfl) (.int .u8 (ofB b1)))
  clear z0 fr HCw4 HNw4 HKw4 HZw4 HTw4
  generalize w4.setCell ⟨gc, 14, none⟩ (.int .u8 (ofB b1)) = w5 at *
  refine hK.out _ _ ((by rw [HNw5.out.cell]; rfl)) (fun hHeld => ?_)
  clear hK K
  refine pure_ (i := 17) (N := some 20) (v := ?_) (a' := ?_) #[true, true, true, true, true, true, true, true, true, true, true, true, true, true, true, true, true, true, false] rfl rfl (by kernel_rfl) (fun _ _ _ h => h) (Or.inl ⟨by rfl, ?_⟩) ?_ ?_
  rotate_left
  · intro w'
    go_simp
    with_reducible rfl
  rotate_left
  · simp only [Act.put, List.setIfInBounds_toArray, List.set_cons_zero, List.set_cons_succ, i64_w, i32_w]
    rfl
  refine one_ (i := 18) (N := none) #[true, true, true, true, true, true, true, true, true, true, true, true, true, true, true, true, true, true, true] rfl rfl (by kernel_rfl) (by decide) (fun K hK => ?_)
  have z0 : w5.cell? ⟨gc, 15, none⟩ = some (.int .u8 (ofB ((updB (updB (updB cc 12 b3) 13 b2) 14 b1) 15))) := by rw [HCw5.out.cell]; exact cB_get 16 _ 15 (by decide)
  have fr := HCw5.out.free 15
  refine skip_ (w1 := ?_) (by rfl) rfl ?_ ?_
  rotate_left
  · go_simp
    rfl
  have HCw6 := Lib.hid (HCw5.out.set 15 (.int .u8 (ofB b0)))
  rw [cB_set] at HCw6
  have HNw6 := Lib.hid (HNw5.out.other (a := ⟨gc, 15, none⟩) HNE.out.1 (.int .u8 (ofB b0)))
  have HKw6 := Lib.hid (HKw5.out.other (a := ⟨gc, 15, none⟩) (fun e => HNE.out.2.2 e.symm) (.int .u8 (ofB b0)))
  have HZw6 := Lib.hid (HZw5.out.other (a := ⟨gc, 15, none⟩) HZN.out (.int .u8 (ofB b0)))
  have HTw6 := Lib.hid (HTw5.out.set (by rw [HGZ.out]; exact HSZ.out) (p := ⟨gc, 15, none⟩) (Or.inr rfl) (.int .u8 (ofB b0)))
  clear z0 fr HCw5 HNw5 HKw5 HZw5 HTw5
  generalize w5.setCell ⟨gc, 15, none⟩ (.int .u8 (ofB b0)) = w6 at *
  refine hK.out _ _ ((by rw [HNw6.out.cell]; rfl)) (fun hHeld => ?_)
  clear hK K
  refine done_ (by kernel_rfl) ?_
  -- behind it
  clear s0 s1 s2 s3
  rw [cB_congr HCT.out] at HCw6
  have HC6 : Hid (Blk.Is w6 gc (cB 16 (ctr nonce m)) 37) := HCw6
  clear HCw6 HCT
  have lk := Blk.load_row HKw6.out (P := Try.prog) (t := 53) Try.underlying53 rfl (by rw [cB_size]; kernel_rfl)
  have lc := Blk.load_row HC6.out (P := Try.prog) (t := 37) Try.underlying37 rfl (by rw [cB_size]; kernel_rfl)
  go_wp2_with fail
  refine (hE (ctr nonce m) w6).mono ?_
  rintro e w7 ⟨rfl, hb⟩
  clear lk lc
  have HN7 := Lib.hid (HNw6.out.below hb HNw6.out.lt)
  have HC7 := Lib.hid (HC6.out.below hb HC6.out.lt)
  have HK7 := Lib.hid (HKw6.out.below hb HKw6.out.lt)
  have HZ7 := Lib.hid (HZw6.out.below hb HZw6.out.lt)
  have HT7 := Lib.hid (HTw6.out.below_ hb)
  obtain ⟨out, hout⟩ : ∃ out, out = E (ctr nonce m) := ⟨_, rfl⟩
  rw [← hout]
  have HOUT := Lib.hid hout
  clear hout
  have hsr := Blk.store_row (P := Try.prog) (t := 37) (cB 16 out) HZ7.out (by rw [cB_size]; kernel_rfl) (by rw [cB_size, cB_size]) (cB_one _ _)
  have HZ8 := Lib.hid (HZ7.out.setRow (cB 16 out))
  have hkp : Keeps gz w7 (w7.setRow gz (cB 16 out)) := ⟨Blk.below_setRow (Below.refl _ _) (Nat.le_refl _) _, fun k _ hk => setRow_other w7 gz k _ hk⟩
  have hgn : gn ≠ gz := fun e => by have := HSZ.out; omega
  have hgc : gc ≠ gz := fun e => by have := HSZ.out; omega
  have HN8 := Lib.hid (hkp.is HN7.out hgn)
  have HC8 := Lib.hid (hkp.is HC7.out hgc)
  have HK8 := Lib.hid (hkp.is HK7.out (fun e => HKZ.out e))
  have HT8 := Lib.hid (HT7.out.row (k := gz) (by rw [HGZ.out]; exact Nat.le_refl _) (cB 16 out))
  clear hkp hgn hgc
  go_wp2_with fail
  refine bodyPost_ret (results_cell_row rfl _ _ gz 37 (cB 16 out) (0, 0) _ rfl HZ8.out Try.underlying37 rfl (by rw [cB_size]; kernel_rfl)) rfl ?_
  rw [← HM.out]
  exact ⟨by rw [HOUT.out], ⟨HN8.out, ⟨_, HC8.out, fun q hq => by unfold ctr; rw [if_pos hq]⟩, HK8.out, HNE.out⟩, HT8.out⟩
/-- The stream as a value. -/
def strV (gn gc gk : Nat) : Value := .func (.func 34) #[] #[.pointer (some ⟨gn, 0, none⟩), .pointer (some ⟨gc, 0, none⟩), .pointer (some ⟨gk, 0, none⟩)]
set_option maxRecDepth 100000 in
set_option maxHeartbeats 4000000 in
theorem stream_calls (K nonce : Nat → B) (w : World) : Calls Try.prog 23 #[.agg (cB 752 K), .agg (cB 12 nonce)] w fun e w' =>
    ∃ gn gc gk, e = .returned (strV gn gc gk) ∧ Str w' gn gc gk K nonce 0 ∧ w.heap.size ≤ gn ∧ w.heap.size ≤ gc ∧ w.heap.size ≤ gk ∧ Below w.heap.size w w' := by
  have e1 : (w.alloc (.cells (cB 752 K) 53)).heap.size = w.heap.size + 1 := by simp
  have e2 : ((w.alloc (.cells (cB 752 K) 53)).alloc (.cells (cB 12 nonce) 23)).heap.size = w.heap.size + 1 + 1 := by simp
  have HK0 := Lib.hid (((Blk.Is.new w (cB 752 K) 53).alloc (.cells (cB 12 nonce) 23)).alloc (.cells (cB 16 z16) 37))
  have HN0 := Lib.hid ((Blk.Is.new (w.alloc (.cells (cB 752 K) 53)) (cB 12 nonce) 23).alloc (.cells (cB 16 z16) 37))
  have HC0 := Lib.hid (Blk.Is.new ((w.alloc (.cells (cB 752 K) 53)).alloc (.cells (cB 12 nonce) 23)) (cB 16 z16) 37)
  rw [e1] at HN0
  rw [e2] at HC0
  have HB0 := Lib.hid ((((Below.refl _ w).alloc (Nat.le_refl _) (.cells (cB 752 K) 53)).alloc (by omega) (.cells (cB 12 nonce) 23)).alloc (by omega) (.cells (cB 16 z16) 37))
  clear e1 e2
  go_enter Try.func23, Try.ntmps23
  go_wp2_with fail
  rw [lit16]
  generalize ((w.alloc (.cells (cB 752 K) 53)).alloc (.cells (cB 12 nonce) 23)).alloc (.cells (cB 16 z16) 37) = w0 at *
  generalize hg : w.heap.size = g at *
  have HG := Lib.hid hg
  clear hg
  obtain ⟨w1, hcp, hC1, hP1⟩ := cp_mid HC0.out.drew 0 12 16 16 (by omega) (by omega) HN0.out.drew (by omega) 12 24 24 3 5 Try.underlying24 (by kernel_rfl)
  have HK1 := Lib.hid (hP1.is HK0.out.drew (by omega))
  have HB1 := Lib.hid (HB0.out.drew.trans (hP1.below.mono (by omega)))
  have HC1 := Lib.hid hC1
  have HS1 := Lib.hid (show g + 1 + 1 < w1.heap.size from hC1.lt)
  clear hC1 hP1
  go_region
  clear hcp
  have HN2 : Hid (Blk.Is (w1.alloc (.cells #[.int .u32 0] 70)) w1.heap.size #[.int .u32 0] 70) := Blk.Is.new w1 _ _
  have HK2 := Lib.hid (HK1.out.alloc (.cells #[.int .u32 0] 70))
  have HC2 := Lib.hid (HC1.out.alloc (.cells #[.int .u32 0] 70))
  have HB2 := Lib.hid (HB1.out.alloc (by have := HS1.out; omega) (.cells #[.int .u32 0] 70))
  go_wp2_with fail
  go_ret
  refine ⟨w1.heap.size, g + 1 + 1, g, rfl, ⟨HN2.out, ⟨_, HC2.out, fun q hq => by unfold blend; rw [if_pos (by omega), Nat.sub_zero]⟩, HK2.out, by have := HS1.out; omega, by have := HS1.out; omega, by omega⟩, by have := HS1.out; have := HG.out; omega, by have := HG.out; omega, by rw [HG.out]; exact Nat.le_refl _, by rw [HG.out]; exact HB2.out⟩
end Go.Proofs.Ytbebmbcjddibaaa.Gcm
