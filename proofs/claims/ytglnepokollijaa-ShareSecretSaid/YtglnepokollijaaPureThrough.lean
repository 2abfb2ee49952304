/- What is said here: the law's through finds the polynomial through points: as whole numbers and lists alone. -/
import Derived.Test.YtglnepokollijaaPVx1
import Derived.Test.YtglnepokollijaaPVx2
import Derived.Test.YtglnepokollijaaAEvM
namespace Go.Proofs.Ytglnepokollijaa.PureThrough
set_option linter.unusedVariables false
set_option linter.unusedSimpArgs false
open Go.RowKit Go.Proofs.Ytglnepokollijaa.PV Go.Proofs.YtglnepokollijaaW.PrintWords Go.Proofs.YtglnepokollijaaW.PrintLast
open Gf Gfi Poly

theorem wrap_s (j : Nat) (h : j ≤ 1000000) : wrap64 ((j : Int) + 1) = ((j + 1 : Nat) : Int) := by
  rw [IntWalk.wrap64_in _ (by omega)]; omega
theorem rd_ints (bs : List B) (j : Nat) : rd (ints bs) (j : Int) = ofB (bs.getD j 0#8) := by
  unfold rd
  rw [Int.toNat_natCast, ints_getD]
theorem ints_set (bs : List B) (j : Nat) (b : B) : (ints bs).set j (ofB b) = ints (bs.set j b) := by unfold ints; rw [List.map_set]
theorem ints_rep (n : Nat) : List.replicate n (0 : Int) = ints (List.replicate n 0#8) := by unfold ints; rw [List.map_replicate]; rfl
/-- A polynomial times (x + a) and q, c carried in. -/
def go (a q c : B) : List B → List B
  | [] => [c]
  | b :: p => (c ^^^ mul (mul b a) q) :: go a q (mul b q) p
theorem go_len (a q : B) (p : List B) : ∀ c, (go a q c p).length = p.length + 1 := by
  induction p with
  | nil => intro c; rfl
  | cons b p ih => intro c; rw [go, List.length_cons, ih, List.length_cons]
theorem ev_go (a q x : B) (p : List B) : ∀ c, ev x (go a q c p) = c ^^^ mul (mul q (x ^^^ a)) (ev x p) := by
  induction p with
  | nil =>
    intro c
    show c ^^^ mul x 0#8 = c ^^^ mul _ 0#8
    rw [mul_zero, mul_zero]
  | cons b p ih =>
    intro c
    show (c ^^^ mul (mul b a) q) ^^^ mul x (ev x (go a q (mul b q) p)) = c ^^^ mul (mul q (x ^^^ a)) (b ^^^ mul x (ev x p))
    rw [ih, mul_add q, add_mul, mul_add x, mul_add x, mul_add (mul q x ^^^ mul q a), add_mul]
    have e1 : mul (mul b a) q = mul (mul q a) b := by rw [mul_comm b a, mul_assoc, mul_comm b q, ← mul_assoc, mul_comm a q]
    have e2 : mul x (mul b q) = mul (mul q x) b := by rw [mul_comm b q, ← mul_assoc, mul_comm x q]
    have sw : ∀ A E : B, mul x (mul A E) = mul A (mul x E) := fun A E => by rw [← mul_assoc, mul_comm x A, mul_assoc]
    rw [e1, e2, sw, sw]
    generalize mul (mul q a) b = s1
    generalize mul (mul q x) b = s2
    rw [add_mul]
    generalize mul (mul q x) (mul x (ev x p)) = s3
    generalize mul (mul q a) (mul x (ev x p)) = s4
    rw [BitVec.xor_assoc c s1, ← BitVec.xor_assoc s1 s2, BitVec.xor_comm s1 s2]
theorem xr (a b : B) : Go.bits .xor .u8 (ofB a) (ofB b) = ofB (a ^^^ b) := bits_xor a b
theorem getD_app {pre : List B} {c : B} {R : List B} {j : Nat} (h : pre.length = j) : (pre ++ c :: R).getD j 0#8 = c := by
  rw [List.getD_eq_getElem?_getD, List.getElem?_append_right (by omega), h, Nat.sub_self]
  rfl
theorem set_app {pre : List B} {c v : B} {R : List B} {j : Nat} (h : pre.length = j) : (pre ++ c :: R).set j v = pre ++ v :: R := by
  rw [List.set_append_right _ _ (by omega), h, Nat.sub_self, List.set_cons_zero]
section
variable {X Y S : List B}
theorem l2_f (hn : X.length ≤ 1000) (i kk : Nat) (hk : kk < X.length) (P : List B) (hP : P.length ≤ 1000) (q : B) (F : List B) {r : List Int} (hr : ∃ K, ∀ k, K ≤ k → ciboriumlaw04_through.l1 k (ints X) (ints Y) (ints S) (i : Int) (ints F) ((kk + 1 : Nat) : Int) = some r) (m : Nat) :
    ∀ (j : Nat) (pre : List B) (c : B), pre.length = j → j + m = P.length → pre ++ go (X.getD kk 0#8) q c (P.drop j) = F →
      ∃ K, ∀ k, K ≤ k → ciboriumlaw04_through.l2 k (ints X) (ints Y) (ints S) (i : Int) (ints P) (kk : Int) (ofB q) (ints (pre ++ c :: List.replicate m 0#8)) (j : Int) = some r := by
  induction m with
  | zero =>
    intro j pre c hp hj hF
    obtain ⟨K, hK⟩ := hr
    refine ⟨K + 1, fun k hk2 => ?_⟩
    obtain ⟨k, rfl⟩ : ∃ k', k = k' + 1 := ⟨k - 1, by omega⟩
    rw [List.drop_eq_nil_of_le (by omega)] at hF
    have e : pre ++ c :: List.replicate 0 0#8 = F := hF
    rw [ciboriumlaw04_through.l2, if_neg (by rw [ints_length]; omega), e, wrap_s kk (by omega)]
    exact hK k (by omega)
  | succ m ih =>
    intro j pre c hp hj hF
    rw [drop_step P j (by omega)] at hF
    generalize hb : P.getD j 0#8 = b at hF
    obtain ⟨K, hK⟩ := ih (j + 1) (pre ++ [c ^^^ mul (mul b (X.getD kk 0#8)) q]) (mul b q) (by rw [List.length_append, List.length_singleton]; omega) (by omega) (by rw [← hF, List.append_assoc]; rfl)
    refine ⟨K + 400, fun k hk2 => ?_⟩
    obtain ⟨k, rfl⟩ : ∃ k', k = k' + 1 := ⟨k - 1, by omega⟩
    have g1 : rd (ints P) (j : Int) = ofB b := by rw [rd_ints, hb]
    have g2 : rd (ints X) (kk : Int) = ofB (X.getD kk 0#8) := rd_ints X kk
    have g3 : rd (ints (pre ++ c :: List.replicate (m + 1) 0#8)) (j : Int) = ofB c := by rw [rd_ints, getD_app hp]
    have m1 : ciboriumref03_Mul.f k (ofB b) (ofB (X.getD kk 0#8)) = some (ofB (mul b (X.getD kk 0#8))) := ARef.mul_f (by omega) _ _
    have m2 : ciboriumref03_Mul.f k (ofB (mul b (X.getD kk 0#8))) (ofB q) = some (ofB (mul (mul b (X.getD kk 0#8)) q)) := ARef.mul_f (by omega) _ _
    have m3 : ciboriumref03_Mul.f k (ofB b) (ofB q) = some (ofB (mul b q)) := ARef.mul_f (by omega) _ _
    have s1 : (ints (pre ++ c :: List.replicate (m + 1) 0#8)).set j (ofB (c ^^^ mul (mul b (X.getD kk 0#8)) q)) = ints ((pre ++ [c ^^^ mul (mul b (X.getD kk 0#8)) q]) ++ 0#8 :: List.replicate m 0#8) := by
      rw [ints_set, set_app hp, List.replicate_succ, List.append_assoc]; rfl
    have hl1 : (pre ++ [c ^^^ mul (mul b (X.getD kk 0#8)) q]).length = j + 1 := by rw [List.length_append, List.length_singleton]; omega
    have g4 : rd (ints ((pre ++ [c ^^^ mul (mul b (X.getD kk 0#8)) q]) ++ 0#8 :: List.replicate m 0#8)) ((j + 1 : Nat) : Int) = ofB 0#8 := by rw [rd_ints, getD_app hl1]
    have s2 : (ints ((pre ++ [c ^^^ mul (mul b (X.getD kk 0#8)) q]) ++ 0#8 :: List.replicate m 0#8)).set (j + 1) (ofB (0#8 ^^^ mul b q)) = ints ((pre ++ [c ^^^ mul (mul b (X.getD kk 0#8)) q]) ++ mul b q :: List.replicate m 0#8) := by
      rw [ints_set, set_app hl1, BitVec.zero_xor]
    have hlen : (ints (pre ++ c :: List.replicate (m + 1) 0#8)).length = j + 1 + (m + 1) := by rw [ints_length, List.length_append, List.length_cons, List.length_replicate]; omega
    rw [ciboriumlaw04_through.l2, if_pos (by rw [ints_length]; omega), if_pos (by omega), if_pos (by omega), if_pos (by omega), if_pos (by rw [ints_length]; omega), g1, g2, m1, Option.bind_some, m2, Option.bind_some, g3, xr, Int.toNat_natCast, s1, Option.bind_some, wrap_s j (by omega), if_pos (by omega), if_pos (by omega), m3, Option.bind_some, g4, xr, Int.toNat_natCast, s2]
    exact hK k (by omega)
/-- Term i at x, as far as point k. -/
def pr (X Y : List B) (i : Nat) (x : B) : Nat → B
  | 0 => Y.getD i 0#8
  | k + 1 => if k = i then pr X Y i x k else mul (mul (inv (X.getD i 0#8 ^^^ X.getD k 0#8)) (x ^^^ X.getD k 0#8)) (pr X Y i x k)
theorem X_ne (hd : X.Nodup) {a b : Nat} (ha : a < X.length) (hb : b < X.length) (h : a ≠ b) : X.getD a 0#8 ≠ X.getD b 0#8 := by
  rw [List.getD_eq_getElem?_getD, List.getD_eq_getElem?_getD, List.getElem?_eq_getElem ha, List.getElem?_eq_getElem hb]
  exact fun e => h ((List.getElem_inj hd).1 e)
theorem pr_self (hd : X.Nodup) (i : Nat) (hi : i < X.length) (k : Nat) (hk : k ≤ X.length) : pr X Y i (X.getD i 0#8) k = Y.getD i 0#8 := by
  induction k with
  | zero => rfl
  | succ k ih =>
    rw [pr]
    split
    · exact ih (by omega)
    · rename_i h
      have hne : X.getD i 0#8 ^^^ X.getD k 0#8 ≠ 0#8 := fun e => X_ne hd hi (by omega) (fun e => h e.symm) (BitVec.xor_eq_zero_iff.1 e)
      rw [ih (by omega), mul_comm (inv _), mul_inv _ hne, one_mul]
theorem pr_other (i q : Nat) (hq : q ≠ i) (k : Nat) (hk : q < k) : pr X Y i (X.getD q 0#8) k = 0#8 := by
  induction k with
  | zero => omega
  | succ k ih =>
    rw [pr]
    by_cases e : q = k
    · subst e
      rw [if_neg hq, BitVec.xor_self, mul_zero, zero_mul]
    · have h := ih (by omega)
      split
      · exact h
      · rw [h, mul_zero]
/-- The polynomial that is looked for. -/
def Good (X Y cs : List B) : Prop := cs.length = X.length ∧ ∀ q, q < X.length → ev (X.getD q 0#8) cs = Y.getD q 0#8
def xorL : List B → List B → List B := List.zipWith (· ^^^ ·)
theorem ev_xor (x : B) : ∀ a b : List B, a.length = b.length → ev x (xorL a b) = ev x a ^^^ ev x b := by
  intro a
  induction a with
  | nil => intro b h; match b, h with | [], _ => exact (BitVec.xor_self).symm
  | cons u a ih =>
    intro b h
    match b, h with
    | v :: b, h =>
      show (u ^^^ v) ^^^ mul x (ev x (xorL a b)) = (u ^^^ mul x (ev x a)) ^^^ (v ^^^ mul x (ev x b))
      rw [ih b (by simpa using h), mul_add, xor4]
theorem xorL_len (a b : List B) (h : a.length = b.length) : (xorL a b).length = a.length := by unfold xorL; rw [List.length_zipWith]; omega
theorem xorL_get (a b : List B) (j : Nat) (h1 : j < a.length) (h2 : j < b.length) : (xorL a b).getD j 0#8 = a.getD j 0#8 ^^^ b.getD j 0#8 := by
  unfold xorL
  rw [List.getD_eq_getElem?_getD, List.getD_eq_getElem?_getD, List.getD_eq_getElem?_getD, List.getElem?_eq_getElem h1, List.getElem?_eq_getElem h2, List.getElem?_eq_getElem (by rw [List.length_zipWith]; omega), List.getElem_zipWith]
  rfl
theorem l3_f (hn : X.length ≤ 1000) (i : Nat) (hi : i < X.length) (P : List B) (hP : P.length = X.length) (hS : S.length = X.length) {r : List Int} (hr : ∃ K, ∀ k, K ≤ k → ciboriumlaw04_through.l0 k (ints X) (ints Y) (ints (xorL S P)) ((i + 1 : Nat) : Int) = some r) (m : Nat) :
    ∀ j, j + m = X.length → ∃ K, ∀ k, K ≤ k → ciboriumlaw04_through.l3 k (ints X) (ints Y) (ints ((xorL S P).take j ++ S.drop j)) (i : Int) (ints P) (j : Int) = some r := by
  have hT : (xorL S P).length = X.length := by rw [xorL_len _ _ (by omega)]; omega
  induction m with
  | zero =>
    intro j hj
    obtain ⟨K, hK⟩ := hr
    refine ⟨K + 1, fun k hk => ?_⟩
    obtain ⟨k, rfl⟩ : ∃ k', k = k' + 1 := ⟨k - 1, by omega⟩
    rw [ciboriumlaw04_through.l3, if_neg (by rw [ints_length]; omega), List.take_of_length_le (by omega), List.drop_eq_nil_of_le (by omega), List.append_nil, wrap_s i (by omega)]
    exact hK k (by omega)
  | succ m ih =>
    intro j hj
    obtain ⟨K, hK⟩ := ih (j + 1) (by omega)
    refine ⟨K + 1, fun k hk => ?_⟩
    obtain ⟨k, rfl⟩ : ∃ k', k = k' + 1 := ⟨k - 1, by omega⟩
    have hlt : ((xorL S P).take j).length = j := by rw [List.length_take]; omega
    have hds := drop_step S j (by omega)
    have g1 : rd (ints ((xorL S P).take j ++ S.drop j)) (j : Int) = ofB (S.getD j 0#8) := by rw [rd_ints, hds, getD_app hlt]
    have g2 : rd (ints P) (j : Int) = ofB (P.getD j 0#8) := rd_ints P j
    have s1 : (ints ((xorL S P).take j ++ S.drop j)).set j (ofB (S.getD j 0#8 ^^^ P.getD j 0#8)) = ints ((xorL S P).take (j + 1) ++ S.drop (j + 1)) := by
      have e2 : (xorL S P).take (j + 1) = (xorL S P).take j ++ [(xorL S P).getD j 0#8] := by
        rw [List.take_succ_eq_append_getElem (by omega), List.getD_eq_getElem?_getD, List.getElem?_eq_getElem (by omega)]
        rfl
      rw [ints_set, hds, set_app hlt, e2, xorL_get _ _ _ (by omega) (by omega), List.append_assoc]
      rfl
    have hll : (ints ((xorL S P).take j ++ S.drop j)).length = X.length := by rw [ints_length, List.length_append, hlt, List.length_drop]; omega
    rw [ciboriumlaw04_through.l3, if_pos (by rw [ints_length]; omega), if_pos (by omega), if_pos (by omega), g1, g2, xr, Int.toNat_natCast, s1, wrap_s j (by omega)]
    exact hK k (by omega)
theorem l1_f (hn : X.length ≤ 1000) (i : Nat) (hi : i < X.length) (hr : ∀ P : List B, P.length = X.length → (∀ x, ev x P = pr X Y i x X.length) → ∃ cs, Good X Y cs ∧ ∃ K, ∀ k, K ≤ k → ciboriumlaw04_through.l3 k (ints X) (ints Y) (ints S) (i : Int) (ints P) 0 = some (ints cs)) (m : Nat) :
    ∀ (kk : Nat) (P : List B), kk + m = X.length → P.length = (if kk ≤ i then kk + 1 else kk) → (∀ x, ev x P = pr X Y i x kk) → ∃ cs, Good X Y cs ∧ ∃ K, ∀ k, K ≤ k → ciboriumlaw04_through.l1 k (ints X) (ints Y) (ints S) (i : Int) (ints P) (kk : Int) = some (ints cs) := by
  induction m with
  | zero =>
    intro kk P hk hP hev
    rw [if_neg (by omega)] at hP
    obtain rfl : kk = X.length := by omega
    obtain ⟨cs, hg, K, hK⟩ := hr P hP hev
    refine ⟨cs, hg, K + 1, fun k hk2 => ?_⟩
    obtain ⟨k, rfl⟩ : ∃ k', k = k' + 1 := ⟨k - 1, by omega⟩
    rw [ciboriumlaw04_through.l1, if_neg (by rw [ints_length]; omega)]
    exact hK k (by omega)
  | succ m ih =>
    intro kk P hk hP hev
    by_cases he : kk = i
    · subst he
      rw [if_pos (Nat.le_refl _)] at hP
      obtain ⟨cs, hg, K, hK⟩ := ih (kk + 1) P (by omega) (by rw [if_neg (by omega)]; exact hP) (fun x => by rw [hev, pr, if_pos rfl])
      refine ⟨cs, hg, K + 1, fun k hk2 => ?_⟩
      obtain ⟨k, rfl⟩ : ∃ k', k = k' + 1 := ⟨k - 1, by omega⟩
      rw [ciboriumlaw04_through.l1, if_pos (by rw [ints_length]; omega), if_pos rfl, wrap_s kk (by omega)]
      exact hK k (by omega)
    · have hPl : P.length ≤ 1000 ∧ 0 < P.length ∨ P.length ≤ 1000 := by right; split at hP <;> omega
      have hPl2 : P.length ≤ 1000 := by rcases hPl with h | h; exact h.1; exact h
      obtain ⟨cs, hg, hK1⟩ := ih (kk + 1) (go (X.getD kk 0#8) (inv (X.getD i 0#8 ^^^ X.getD kk 0#8)) 0#8 P) (by omega) (by
        rw [go_len, hP]
        by_cases h : kk ≤ i
        · rw [if_pos h, if_pos (by omega)]
        · rw [if_neg h, if_neg (by omega)]) (fun x => by rw [ev_go, hev, BitVec.zero_xor, pr, if_neg he])
      obtain ⟨K, hK⟩ := l2_f hn i kk (by omega) P hPl2 (inv (X.getD i 0#8 ^^^ X.getD kk 0#8)) _ hK1 P.length 0 [] 0#8 rfl (by omega) rfl
      refine ⟨cs, hg, K + 500, fun k hk2 => ?_⟩
      obtain ⟨k, rfl⟩ : ∃ k', k = k' + 1 := ⟨k - 1, by omega⟩
      have g1 : rd (ints X) (i : Int) = ofB (X.getD i 0#8) := rd_ints X i
      have g2 : rd (ints X) (kk : Int) = ofB (X.getD kk 0#8) := rd_ints X kk
      have d1 : ∃ e, ciboriumref03_Div.f k 1 (ofB (X.getD i 0#8 ^^^ X.getD kk 0#8)) = some (ofB (inv (X.getD i 0#8 ^^^ X.getD kk 0#8)), e) := by
        have h := ARef.div_f (k := k) (by omega) 1#8 (X.getD i 0#8 ^^^ X.getD kk 0#8)
        have h2 : ciboriumref03_Div.f k 1 (ofB (X.getD i 0#8 ^^^ X.getD kk 0#8)) = PA.ciboriumref03_Div.f k (ofB 1#8) (ofB (X.getD i 0#8 ^^^ X.getD kk 0#8)) := rfl
        rw [h2, h]
        by_cases hz : X.getD i 0#8 ^^^ X.getD kk 0#8 = 0#8
        · rw [if_pos hz, hz]
          exact ⟨30, rfl⟩
        · rw [if_neg hz, one_mul]
          exact ⟨0, rfl⟩
      obtain ⟨e, d1⟩ := d1
      have hPl3 : P.length + 1 ≤ 2000 := Nat.le_trans (Nat.add_le_add_right hPl2 1) (by decide)
      have hPl4 : P.length ≤ 1000000 := Nat.le_trans hPl2 (by decide)
      have c1 : (kk : Int) < ((ints X).length : Int) := by rw [ints_length]; omega
      have c2 : ¬ (kk : Int) = (i : Int) := by omega
      have c4 : (i : Int) < ((ints X).length : Int) := by rw [ints_length]; omega
      have hw : wrap64 (((ints P).length : Int) + 1) = ((P.length + 1 : Nat) : Int) := by rw [ints_length]; exact wrap_s _ hPl4
      have hrep : List.replicate (P.length + 1) (0 : Int) = ints ([] ++ 0#8 :: List.replicate P.length 0#8) := by rw [ints_rep, List.replicate_succ]; rfl
      rw [ciboriumlaw04_through.l1, if_pos c1, if_neg c2, if_pos (Int.natCast_nonneg _), if_pos c4, if_pos (Int.natCast_nonneg _), g1, g2, xr, d1, Option.bind_some, hw, if_pos (Int.natCast_nonneg _), Int.toNat_natCast, if_pos (Nat.le_trans hPl3 (by decide)), hrep]
      exact hK k (by omega)
theorem l0_f (hd : X.Nodup) (hn : X.length ≤ 1000) (hY : Y.length = X.length) (m : Nat) :
    ∀ (i : Nat) (S : List B), i + m = X.length → S.length = X.length → (∀ q, q < X.length → ev (X.getD q 0#8) S = if q < i then Y.getD q 0#8 else 0#8) → ∃ cs, Good X Y cs ∧ ∃ K, ∀ k, K ≤ k → ciboriumlaw04_through.l0 k (ints X) (ints Y) (ints S) (i : Int) = some (ints cs) := by
  induction m with
  | zero =>
    intro i S hi hS hev
    obtain rfl : i = X.length := by omega
    refine ⟨S, ⟨hS, fun q hq => by rw [hev q hq, if_pos hq]⟩, 1, fun k hk => ?_⟩
    obtain ⟨k, rfl⟩ : ∃ k', k = k' + 1 := ⟨k - 1, by omega⟩
    rw [ciboriumlaw04_through.l0, if_neg (by rw [ints_length]; omega)]
  | succ m ih =>
    intro i S hi hS hev
    obtain ⟨cs, hg, K, hK⟩ := l1_f (S := S) (Y := Y) hn i (by omega) (fun P hP hPe => by
      obtain ⟨cs, hg, hK⟩ := ih (i + 1) (xorL S P) (by omega) (by rw [xorL_len _ _ (by omega)]; exact hS) (fun q hq => by
        rw [ev_xor _ _ _ (by omega), hev q hq, hPe]
        by_cases e : q = i
        · subst e
          rw [pr_self hd q hq _ (Nat.le_refl _), if_neg (by omega), if_pos (by omega), BitVec.zero_xor]
        · rw [pr_other i q e _ hq, BitVec.xor_zero]
          by_cases h : q < i
          · rw [if_pos h, if_pos (by omega)]
          · rw [if_neg h, if_neg (by omega)])
      exact ⟨cs, hg, l3_f hn i (by omega) P hP hS hK X.length 0 (by omega)⟩) X.length 0 [Y.getD i 0#8] (by omega) (by rw [if_pos (Nat.zero_le _)]; rfl) (fun x => by
        show Y.getD i 0#8 ^^^ mul x 0#8 = _
        rw [mul_zero, BitVec.xor_zero]
        rfl)
    refine ⟨cs, hg, K + 1, fun k hk => ?_⟩
    obtain ⟨k, rfl⟩ : ∃ k', k = k' + 1 := ⟨k - 1, by omega⟩
    have g1 : rd (ints Y) (i : Int) = ofB (Y.getD i 0#8) := rd_ints Y i
    have e1 : ([ofB (Y.getD i 0#8)] : List Int) = ints [Y.getD i 0#8] := rfl
    rw [ciboriumlaw04_through.l0, if_pos (by rw [ints_length]; omega), if_pos (by omega), if_pos (by rw [ints_length]; omega), g1, e1]
    exact hK k (by omega)
end
theorem ev_rep (x : B) (n : Nat) : ev x (List.replicate n 0#8) = 0#8 := by
  induction n with
  | zero => rfl
  | succ n ih =>
    rw [List.replicate_succ]
    show 0#8 ^^^ mul x (ev x (List.replicate n 0#8)) = 0#8
    rw [ih, mul_zero, BitVec.xor_self]
/-- The polynomial through points that lie apart. -/
theorem through_f (X Y : List B) (hd : X.Nodup) (hn : X.length ≤ 1000) (hY : Y.length = X.length) : ∃ cs, Good X Y cs ∧ ∃ K, ∀ k, K ≤ k → ciboriumlaw04_through.f k (ints X) (ints Y) = some (ints cs) := by
  obtain ⟨cs, hg, K, hK⟩ := l0_f hd hn hY X.length 0 (List.replicate X.length 0#8) (by omega) (List.length_replicate) (fun q hq => by rw [ev_rep, if_neg (Nat.not_lt_zero q)])
  refine ⟨cs, hg, K, fun k hk => ?_⟩
  unfold ciboriumlaw04_through.f
  rw [ints_length, Int.toNat_natCast, if_pos (Int.natCast_nonneg _), if_pos (Nat.le_trans hn (by decide)), ints_rep]
  exact hK k hk
end Go.Proofs.Ytglnepokollijaa.PureThrough
