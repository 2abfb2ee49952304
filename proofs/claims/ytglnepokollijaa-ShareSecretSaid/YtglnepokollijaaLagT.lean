/- What is said here: Lagrange's sum over a field of 256; what it comes to. -/
import Derived.Test.YtglnepokollijaaPoly
namespace Go.Proofs.Ytglnepokollijaa.Lag
set_option linter.unusedVariables false
set_option linter.unusedSimpArgs false
open Go.Proofs.Ytglnepokollijaa.Gf Go.Proofs.Ytglnepokollijaa.Gfi Go.Proofs.Ytglnepokollijaa.Poly

/-- Points that may be: none is 0, no two are the same. -/
def ok (l : List B) : Prop := l.Nodup ∧ 0#8 ∉ l
instance (l : List B) : Decidable (ok l) := by unfold ok; infer_instance
theorem ok_nil : ok [] := ⟨List.nodup_nil, by simp⟩
theorem ok_snoc (l : List B) (x : B) : ok (l ++ [x]) ↔ ok l ∧ x ≠ 0#8 ∧ x ∉ l := by
  unfold ok
  rw [List.nodup_append]
  simp only [List.mem_append, List.mem_singleton, List.nodup_cons, List.not_mem_nil, not_false_eq_true, List.nodup_nil, and_self, true_and]
  constructor
  · rintro ⟨⟨h1, h2⟩, h3⟩
    exact ⟨⟨h1, fun h => h3 (.inl h)⟩, fun h => h3 (.inr h.symm), fun h => h2 x h x rfl rfl⟩
  · rintro ⟨⟨h1, h2⟩, h3, h4⟩
    exact ⟨⟨h1, fun a ha b hb e => h4 (by rw [hb] at e; rwa [e] at ha)⟩, fun h => h.elim h2 (fun e => h3 e.symm)⟩
theorem take_snoc (l : List B) (k : Nat) (h : k < l.length) : l.take (k + 1) = l.take k ++ [l.getD k 0#8] := by
  rw [List.take_succ_eq_append_getElem h, List.getD_eq_getElem?_getD, List.getElem?_eq_getElem h]
  rfl
theorem ok_take {l : List B} (h : ok l) (k : Nat) : ok (l.take k) := ⟨(List.take_sublist k l).nodup h.1, fun hm => h.2 (List.mem_of_mem_take hm)⟩
theorem getD_mem (l : List B) (k : Nat) (h : k < l.length) : l.getD k 0#8 ∈ l := by
  rw [List.getD_eq_getElem?_getD, List.getElem?_eq_getElem h]
  exact List.getElem_mem h
theorem getD_ne {l : List B} (h : ok l) (k : Nat) (hk : k < l.length) : l.getD k 0#8 ≠ 0#8 := fun e => h.2 (by rw [← e]; exact getD_mem l k hk)
theorem getD_inj {l : List B} (h : ok l) {i k : Nat} (hi : i < l.length) (hk : k < l.length) (hne : i ≠ k) : l.getD i 0#8 ≠ l.getD k 0#8 := by
  rw [List.getD_eq_getElem?_getD, List.getD_eq_getElem?_getD, List.getElem?_eq_getElem hi, List.getElem?_eq_getElem hk]
  intro e
  exact hne ((List.getElem_inj h.1).1 e)
/-- There are no more than 255 such points. -/
theorem length_le_of_subset {α : Type} [DecidableEq α] (l : List α) : ∀ u : List α, l.Nodup → (∀ x, x ∈ l → x ∈ u) → l.length ≤ u.length := by
  induction l with
  | nil => intro u _ _; simp
  | cons a l ih =>
    intro u hn hs
    have h1 := ih (u.erase a) (List.nodup_cons.1 hn).2 (fun x hx => by
      have hne : x ≠ a := fun e => (List.nodup_cons.1 hn).1 (e ▸ hx)
      exact (List.mem_erase_of_ne hne).2 (hs x (List.mem_cons_of_mem _ hx)))
    have ha := hs a List.mem_cons_self
    rw [List.length_erase_of_mem ha] at h1
    have := List.length_pos_of_mem ha
    simp only [List.length_cons]
    omega
theorem ok_length {l : List B} (h : ok l) : l.length ≤ 255 := by
  have := length_le_of_subset l ((List.range 255).map fun i => BitVec.ofNat 8 (i + 1)) h.1 (fun x hx => by
    have hx0 : x ≠ 0#8 := fun e => h.2 (e ▸ hx)
    have hn : x.toNat ≠ 0 := fun e => hx0 (BitVec.eq_of_toNat_eq e)
    have hlt := x.isLt
    rw [List.mem_map]
    refine ⟨x.toNat - 1, List.mem_range.2 (by omega), ?_⟩
    rw [Nat.sub_add_cancel (by omega)]
    simp)
  simpa using this

section
variable (xs ys : List B)
/-- Term i, over the first k places. -/
def prod (i : Nat) : Nat → B
  | 0 => ys.getD i 0#8
  | k + 1 => if k = i then prod i k else mul (prod i k) (mul (xs.getD k 0#8) (inv (xs.getD k 0#8 ^^^ xs.getD i 0#8)))
/-- The sum of the first i terms. -/
def sum : Nat → B
  | 0 => 0#8
  | i + 1 => sum i ^^^ prod xs ys i xs.length
/-- The exponent of term i, over the first k places. -/
def inn (i : Nat) : Nat → Nat
  | 0 => lg (ys.getD i 0#8)
  | k + 1 => inn i k + if k = i then 0 else lg (xs.getD k 0#8) + 255 - lg (xs.getD k 0#8 ^^^ xs.getD i 0#8)
/-- The sum of the first i terms, by logarithms. -/
def acc : Nat → B
  | 0 => 0#8
  | i + 1 => acc i ^^^ if ys.getD i 0#8 = 0#8 then 0#8 else p3 (inn xs ys i xs.length % 255)
theorem inn_le (i k : Nat) : inn xs ys i k ≤ 254 + 509 * k := by
  induction k with
  | zero =>
    rw [inn]
    have := lg_lt (ys.getD i 0#8)
    omega
  | succ k ih =>
    rw [inn]
    have := lg_lt (xs.getD k 0#8)
    split <;> omega
end
/-- The value at 0. -/
def atZero (xs ys : List B) : B := sum xs ys xs.length

theorem xor_ne {a b : B} (h : a ≠ b) : a ^^^ b ≠ 0#8 := by
  intro e
  apply h
  have := congrArg (· ^^^ b) e
  simpa [BitVec.xor_assoc] using this
theorem dv_p3 {a b : B} (ha : a ≠ 0#8) (hb : b ≠ 0#8) : mul a (inv b) = p3 (lg a + 255 - lg b) := by
  have := lg_lt b
  rw [inv, if_neg hb]
  conv => lhs; arg 1; rw [← p3_lg a ha]
  rw [← p3_add]
  congr 1
  omega
theorem prod_zero (xs ys : List B) (i : Nat) (h : ys.getD i 0#8 = 0#8) (k : Nat) : prod xs ys i k = 0#8 := by
  induction k with
  | zero => exact h
  | succ k ih =>
    rw [prod]
    split
    · exact ih
    · rw [ih, zero_mul]
theorem prod_p3 {xs : List B} (hok : ok xs) (ys : List B) {i : Nat} (hi : i < xs.length) (h : ys.getD i 0#8 ≠ 0#8) (k : Nat) (hk : k ≤ xs.length) : prod xs ys i k = p3 (inn xs ys i k) := by
  induction k with
  | zero => exact (p3_lg _ h).symm
  | succ k ih =>
    rw [prod, inn]
    by_cases hki : k = i
    · rw [if_pos hki, if_pos hki, Nat.add_zero, ih (by omega)]
    · rw [if_neg hki, if_neg hki, ih (by omega), p3_add, dv_p3 (getD_ne hok k (by omega)) (xor_ne (getD_inj hok (by omega) hi hki))]
theorem acc_sum {xs : List B} (hok : ok xs) (ys : List B) (i : Nat) (hi : i ≤ xs.length) : acc xs ys i = sum xs ys i := by
  induction i with
  | zero => rfl
  | succ i ih =>
    rw [acc, sum, ih (by omega)]
    by_cases h : ys.getD i 0#8 = 0#8
    · rw [if_pos h, prod_zero xs ys i h]
    · rw [if_neg h, p3_mod, prod_p3 hok ys (by omega) h _ (Nat.le_refl _)]
theorem atZero_acc {xs : List B} (hok : ok xs) (ys : List B) : atZero xs ys = acc xs ys xs.length := (acc_sum hok ys _ (Nat.le_refl _)).symm
end Go.Proofs.Ytglnepokollijaa.Lag

namespace Go.Proofs.Ytglnepokollijaa.LagT
set_option linter.unusedVariables false
set_option linter.unusedSimpArgs false
open Go.Proofs.Ytglnepokollijaa.Gf Go.Proofs.Ytglnepokollijaa.Gfi Go.Proofs.Ytglnepokollijaa.Poly Go.Proofs.Ytglnepokollijaa.Lag

/-- The product over l of z by (z and x). -/
def prodL (x : B) : List B → B
  | [] => 1#8
  | z :: r => mul (mul z (inv (z ^^^ x))) (prodL x r)
theorem prodL_append (x : B) (a b : List B) : prodL x (a ++ b) = mul (prodL x a) (prodL x b) := by
  induction a with
  | nil => rw [List.nil_append, prodL, one_mul]
  | cons z a ih => rw [List.cons_append, prodL, prodL, ih, ← mul_assoc]
theorem prodL_ne (x : B) (l : List B) (h0 : 0#8 ∉ l) (hx : x ∉ l) : prodL x l ≠ 0#8 := by
  induction l with
  | nil => show 1#8 ≠ 0#8; decide
  | cons z r ih =>
    rw [prodL]
    have hz : z ≠ 0#8 := fun e => h0 (e ▸ List.mem_cons_self)
    have hzx : z ≠ x := fun e => hx (e ▸ List.mem_cons_self)
    exact mul_ne _ _ (mul_ne _ _ hz (inv_ne _ (xor_ne hzx))) (ih (fun h => h0 (List.mem_cons_of_mem _ h)) (fun h => hx (List.mem_cons_of_mem _ h)))
/-- The sum over the points of l, with pre among the others. -/
def S (f : B → B) (pre : List B) : List B → B
  | [] => 0#8
  | x :: r => mul (f x) (prodL x (pre ++ r)) ^^^ S f (pre ++ [x]) r
def L (l : List B) (f : B → B) : B := S f [] l

theorem S_pre (f : B → B) (l : List B) : ∀ p q : List B, (∀ x, prodL x p = prodL x q) → S f p l = S f q l := by
  induction l with
  | nil => intro p q _; rfl
  | cons x r ih =>
    intro p q h
    rw [S, S, prodL_append, prodL_append, h, ih (p ++ [x]) (q ++ [x]) (fun y => by rw [prodL_append, prodL_append, h])]
theorem S_add (f g : B → B) (l : List B) : ∀ p, S (fun x => f x ^^^ g x) p l = S f p l ^^^ S g p l := by
  induction l with
  | nil => intro p; simp [S]
  | cons x r ih => intro p; rw [S, S, S, ih, add_mul, xor4]
theorem S_scale (c : B) (f : B → B) (l : List B) : ∀ p, S (fun x => mul c (f x)) p l = mul c (S f p l) := by
  induction l with
  | nil => intro p; rw [S, S, mul_zero]
  | cons x r ih => intro p; rw [S, S, ih, mul_add, mul_assoc]
theorem S_congr {f g : B → B} (l : List B) : ∀ p, (∀ x, x ∈ l → f x = g x) → S f p l = S g p l := by
  induction l with
  | nil => intro p _; rfl
  | cons x r ih => intro p h; rw [S, S, h x List.mem_cons_self, ih _ (fun y hy => h y (List.mem_cons_of_mem _ hy))]
/-- A point goes out. -/
theorem S_out (z : B) (g : B → B) (l : List B) : ∀ p, z ∉ l → S (fun x => mul (x ^^^ z) (g x)) (z :: p) l = mul z (S g p l) := by
  induction l with
  | nil => intro p _; rw [S, S, mul_zero]
  | cons x r ih =>
    intro p hz
    have hzx : z ≠ x := fun e => hz (e ▸ List.mem_cons_self)
    rw [S, S, List.cons_append, List.cons_append, ih (p ++ [x]) (fun h => hz (List.mem_cons_of_mem _ h)), mul_add, prodL]
    congr 1
    have hn := xor_ne hzx
    have e : mul (x ^^^ z) (mul z (inv (z ^^^ x))) = z := by
      rw [mul_comm z, ← mul_assoc, BitVec.xor_comm x z, mul_inv _ hn, one_mul]
    rw [mul_comm (x ^^^ z) (g x), mul_assoc, ← mul_assoc (x ^^^ z), e, ← mul_assoc, mul_comm (g x) z, mul_assoc]
theorem L_out (z : B) (g : B → B) (l : List B) (hz : z ∉ l) : L (z :: l) (fun x => mul (x ^^^ z) (g x)) = mul z (L l g) := by
  unfold L
  rw [S, BitVec.xor_self, zero_mul, zero_mul, BitVec.zero_xor]
  exact S_out z g l [] hz
theorem L_swap (z y : B) (r : List B) (f : B → B) : L (z :: y :: r) f = L (y :: z :: r) f := by
  unfold L
  simp only [S, List.nil_append, List.cons_append]
  rw [← BitVec.xor_assoc, ← BitVec.xor_assoc, BitVec.xor_comm (mul (f z) _)]
  congr 1
  exact S_pre f r _ _ (fun x => by
    simp only [prodL]
    rw [mul_one, mul_one, mul_comm])
theorem L_one (n : Nat) : ∀ l : List B, l.length = n → l ≠ [] → ok l → L l (fun _ => 1#8) = 1#8 := by
  induction n using Nat.strongRecOn with
  | _ n ih =>
    intro l hl hne hok
    match l, hne with
    | [z], _ => simp [L, S, prodL, mul_one]
    | z :: y :: r, _ =>
      have hnd := hok.1
      have h0 := hok.2
      rw [List.nodup_cons, List.nodup_cons] at hnd
      simp only [List.length_cons] at hl
      have hzy : z ≠ y := fun e => hnd.1 (e ▸ List.mem_cons_self)
      have hzr : z ∉ r := fun h => hnd.1 (List.mem_cons_of_mem _ h)
      have ok1 : ok (y :: r) := ⟨List.nodup_cons.2 hnd.2, fun h => h0 (List.mem_cons_of_mem _ h)⟩
      have ok2 : ok (z :: r) := ⟨List.nodup_cons.2 ⟨hzr, hnd.2.2⟩, fun h => h0 (by
        rcases List.mem_cons.1 h with h | h
        · exact h ▸ List.mem_cons_self
        · exact List.mem_cons_of_mem _ (List.mem_cons_of_mem _ h))⟩
      have i1 := ih (r.length + 1) (by omega) (y :: r) (by simp) (by simp) ok1
      have i2 := ih (r.length + 1) (by omega) (z :: r) (by simp) (by simp) ok2
      have e1 := L_out z (fun _ => 1#8) (y :: r) hnd.1
      have e2 := L_out y (fun _ => 1#8) (z :: r) (by
        intro h
        rcases List.mem_cons.1 h with h | h
        · exact hzy h.symm
        · exact hnd.2.1 h)
      rw [i1, mul_one] at e1
      rw [i2, mul_one, L_swap] at e2
      have e3 : mul (z ^^^ y) (L (z :: y :: r) (fun _ => 1#8)) = z ^^^ y := by
        have h3 := S_add (fun x => mul (x ^^^ z) 1#8) (fun x => mul (x ^^^ y) 1#8) (z :: y :: r) []
        have h4 := S_scale (z ^^^ y) (fun _ => 1#8) (z :: y :: r) []
        have h5 : S (fun x => mul (z ^^^ y) 1#8) [] (z :: y :: r) = S (fun x => mul (x ^^^ z) 1#8 ^^^ mul (x ^^^ y) 1#8) [] (z :: y :: r) := S_congr _ _ (fun x _ => by
          rw [mul_one, mul_one, mul_one, xor4, BitVec.xor_self, BitVec.zero_xor])
        have e1' : S (fun x => mul (x ^^^ z) 1#8) [] (z :: y :: r) = z := e1
        have e2' : S (fun x => mul (x ^^^ y) 1#8) [] (z :: y :: r) = y := e2
        show mul (z ^^^ y) (S (fun _ => 1#8) [] (z :: y :: r)) = z ^^^ y
        rw [← h4, h5, h3, e1', e2']
      exact mul_cancel (xor_ne hzy) (e3.trans (mul_one _).symm)

/-- f is a polynomial's value, of at most n coefficients. -/
inductive Pol : Nat → (B → B) → Prop
  | zero : Pol 0 (fun _ => 0#8)
  | step (n : Nat) (c : B) (g : B → B) : Pol n g → Pol (n + 1) (fun x => c ^^^ mul x (g x))
theorem Pol.weak {n : Nat} {f : B → B} (h : Pol n f) : Pol (n + 1) f := by
  induction h with
  | zero =>
    have := Pol.step 0 0#8 _ Pol.zero
    simpa [mul_zero] using this
  | step n c g _ ih => exact Pol.step _ c g ih
theorem Pol.of_zero {f : B → B} (h : Pol 0 f) : f = fun _ => 0#8 := by
  cases h
  rfl
theorem Pol.inv_succ {n : Nat} {f : B → B} (h : Pol (n + 1) f) : ∃ c g, Pol n g ∧ f = fun x => c ^^^ mul x (g x) := by
  cases h with
  | step n c g hg => exact ⟨c, g, hg, rfl⟩
theorem Pol.add (n : Nat) : ∀ {f g : B → B}, Pol n f → Pol n g → Pol n (fun x => f x ^^^ g x) := by
  induction n with
  | zero =>
    intro f g hf hg
    rw [hf.of_zero, hg.of_zero]
    simpa using Pol.zero
  | succ n ih =>
    intro f g hf hg
    obtain ⟨c, f', hf', rfl⟩ := hf.inv_succ
    obtain ⟨d, g', hg', rfl⟩ := hg.inv_succ
    have := Pol.step n (c ^^^ d) _ (ih hf' hg')
    have e : (fun x => (c ^^^ mul x (f' x)) ^^^ (d ^^^ mul x (g' x))) = fun x => (c ^^^ d) ^^^ mul x (f' x ^^^ g' x) := by
      funext x
      rw [mul_add, xor4]
    rw [e]
    exact this
theorem Pol.scale (c : B) {n : Nat} {f : B → B} (h : Pol n f) : Pol n (fun x => mul c (f x)) := by
  induction h with
  | zero => simpa [mul_zero] using Pol.zero
  | step n d g _ ih =>
    have := Pol.step n (mul c d) _ ih
    have e : (fun x => mul c (d ^^^ mul x (g x))) = fun x => mul c d ^^^ mul x (mul c (g x)) := by
      funext x
      rw [mul_add, ← mul_assoc c x, mul_comm c x, mul_assoc]
    rw [e]
    exact this
/-- What is left behind division by x and z. -/
theorem Pol.div (z : B) (n : Nat) : ∀ (f : B → B), Pol (n + 1) f → ∃ g, Pol n g ∧ ∀ x, f x = f z ^^^ mul (x ^^^ z) (g x) := by
  induction n with
  | zero =>
    intro f hf
    obtain ⟨c, g, hg, rfl⟩ := hf.inv_succ
    refine ⟨fun _ => 0#8, Pol.zero, fun x => ?_⟩
    rw [hg.of_zero]
    simp [mul_zero]
  | succ n ih =>
    intro f hf
    obtain ⟨c, h, hh, rfl⟩ := hf.inv_succ
    obtain ⟨g', hg', hd⟩ := ih h hh
    refine ⟨fun x => h x ^^^ mul z (g' x), Pol.add _ hh (Pol.scale z hg'.weak), fun x => ?_⟩
    have e1 : mul (x ^^^ z) (h x ^^^ mul z (g' x)) = mul x (h x) ^^^ mul z (h z) := by
      rw [mul_add, add_mul, ← mul_assoc (x ^^^ z) z, mul_comm (x ^^^ z) z, mul_assoc z, BitVec.xor_assoc]
      congr 1
      rw [← mul_add]
      congr 1
      rw [hd x, BitVec.xor_assoc, BitVec.xor_self, BitVec.xor_zero]
    show c ^^^ mul x (h x) = (c ^^^ mul z (h z)) ^^^ mul (x ^^^ z) (h x ^^^ mul z (g' x))
    rw [e1, xor4, BitVec.xor_self, BitVec.xor_zero]
/-- THE POINTS OF A POLYNOMIAL tell its value at 0. -/
theorem L_pol (l : List B) : ∀ f : B → B, ok l → Pol l.length f → L l f = f 0#8 := by
  induction l with
  | nil =>
    intro f _ hf
    have := Pol.of_zero hf
    rw [this]
    rfl
  | cons z r ih =>
    intro f hok hf
    obtain ⟨g, hg, hd⟩ := Pol.div z r.length f hf
    have hnd := List.nodup_cons.1 hok.1
    have ok1 : ok r := ⟨hnd.2, fun h => hok.2 (List.mem_cons_of_mem _ h)⟩
    have e0 : L (z :: r) f = L (z :: r) (fun x => mul (f z) 1#8 ^^^ mul (x ^^^ z) (g x)) := S_congr _ _ (fun x _ => by rw [mul_one]; exact hd x)
    have e1 : L (z :: r) (fun x => mul (f z) 1#8 ^^^ mul (x ^^^ z) (g x)) = L (z :: r) (fun x => mul (f z) 1#8) ^^^ L (z :: r) (fun x => mul (x ^^^ z) (g x)) := S_add _ _ _ _
    have e2 : L (z :: r) (fun x => mul (f z) 1#8) = mul (f z) (L (z :: r) (fun _ => 1#8)) := S_scale _ _ _ _
    rw [e0, e1, e2, L_one _ (z :: r) rfl (by simp) hok, mul_one, L_out z g r hnd.1, ih g ok1 hg, hd 0#8, BitVec.zero_xor]
theorem pol_ev (cs : List B) : Pol cs.length (fun x => ev x cs) := by
  induction cs with
  | nil => exact Pol.zero
  | cons c r ih => exact Pol.step _ c _ ih
theorem Pol.mono {n m : Nat} {f : B → B} (h : Pol n f) (hm : n ≤ m) : Pol m f := by
  induction m with
  | zero =>
    obtain rfl : n = 0 := by omega
    exact h
  | succ m ih =>
    rcases Nat.eq_or_lt_of_le hm with e | e
    · exact e ▸ h
    · exact (ih (by omega)).weak

/-! The sum by places is this one. -/
section
variable (xs ys : List B)
/-- What the value at place i is multiplied by. -/
def coef (i : Nat) : B := prodL (xs.getD i 0#8) (xs.take i ++ xs.drop (i + 1))
theorem prod_lo (i k : Nat) (hk : k ≤ i) (hi : i < xs.length) : prod xs ys i k = mul (ys.getD i 0#8) (prodL (xs.getD i 0#8) (xs.take k)) := by
  induction k with
  | zero => rw [prod, List.take_zero, prodL, mul_one]
  | succ k ih => rw [prod, if_neg (by omega), ih (by omega), take_snoc xs k (by omega), prodL_append, prodL, prodL, mul_one, mul_assoc]
theorem take_drop_snoc (a n : Nat) (h : a + n < xs.length) : (xs.drop a).take (n + 1) = (xs.drop a).take n ++ [xs.getD (a + n) 0#8] := by
  have := take_snoc (xs.drop a) n (by rw [List.length_drop]; omega)
  rw [this, List.getD_eq_getElem?_getD, List.getElem?_drop, ← List.getD_eq_getElem?_getD]
theorem prod_hi (i n : Nat) (hi : i + 1 + n ≤ xs.length) : prod xs ys i (i + 1 + n) = mul (ys.getD i 0#8) (prodL (xs.getD i 0#8) (xs.take i ++ (xs.drop (i + 1)).take n)) := by
  induction n with
  | zero => rw [Nat.add_zero, prod, if_pos rfl, prod_lo xs ys i i (Nat.le_refl _) (by omega), List.take_zero, List.append_nil]
  | succ n ih => rw [← Nat.add_assoc, prod, if_neg (by omega), ih (by omega), take_drop_snoc xs (i + 1) n (by omega), ← List.append_assoc, prodL_append _ (xs.take i ++ _), prodL, prodL, mul_one, mul_assoc]
theorem prod_all (i : Nat) (hi : i < xs.length) : prod xs ys i xs.length = mul (ys.getD i 0#8) (coef xs i) := by
  have h := prod_hi xs ys i (xs.length - (i + 1)) (by omega)
  rw [show i + 1 + (xs.length - (i + 1)) = xs.length by omega, List.take_of_length_le (l := xs.drop (i + 1)) (by rw [List.length_drop]; omega)] at h
  exact h
end
theorem sum_S (xs : List B) (f : B → B) (ys : List B) (h : ∀ i, i < xs.length → ys.getD i 0#8 = f (xs.getD i 0#8)) (n : Nat) : ∀ i, i + n = xs.length → Lag.sum xs ys xs.length = Lag.sum xs ys i ^^^ S f (xs.take i) (xs.drop i) := by
  induction n with
  | zero =>
    intro i hi
    rw [show i = xs.length by omega, List.drop_length, S, BitVec.xor_zero]
  | succ n ih =>
    intro i hi
    rw [ih (i + 1) (by omega), Lag.sum, prod_all xs ys i (by omega), h i (by omega), drop_step xs i (by omega), S, take_snoc xs i (by omega), BitVec.xor_assoc]
    rfl
/-- AtZero of a polynomial's values is its first coefficient. -/
theorem through (xs cs ys : List B) (hok : ok xs) (hc : cs.length ≤ xs.length) (h : ∀ i, i < xs.length → ys.getD i 0#8 = ev (xs.getD i 0#8) cs) : atZero xs ys = cs.getD 0 0#8 := by
  unfold atZero
  rw [sum_S xs (fun x => ev x cs) ys h xs.length 0 (by omega), Lag.sum, BitVec.zero_xor, List.take_zero, List.drop_zero]
  have := L_pol xs (fun x => ev x cs) hok ((pol_ev cs).mono hc)
  unfold L at this
  rw [this]
  cases cs with
  | nil => rfl
  | cons c r =>
    show c ^^^ mul 0#8 (ev 0#8 r) = c
    rw [zero_mul, BitVec.xor_zero]
theorem coef_ne (xs : List B) (hok : ok xs) (hl : 0 < xs.length) : coef xs 0 ≠ 0#8 := by
  cases xs with
  | nil => simp at hl
  | cons z r =>
    have hnd := List.nodup_cons.1 hok.1
    show prodL z ([] ++ r) ≠ 0#8
    exact prodL_ne z r (fun h => hok.2 (List.mem_cons_of_mem _ h)) hnd.1
theorem sum_set (xs ys : List B) (t : B) (hl : 0 < xs.length) (hy : 0 < ys.length) (i : Nat) (hi : i < xs.length) : Lag.sum xs (ys.set 0 (ys.getD 0 0#8 ^^^ t)) (i + 1) = Lag.sum xs ys (i + 1) ^^^ mul t (coef xs 0) := by
  induction i with
  | zero =>
    rw [Lag.sum, Lag.sum, Lag.sum, Lag.sum, prod_all xs _ 0 hl, prod_all xs _ 0 hl]
    have e : (ys.set 0 (ys.getD 0 0#8 ^^^ t)).getD 0 0#8 = ys.getD 0 0#8 ^^^ t := by
      rw [List.getD_eq_getElem?_getD, List.getElem?_set_self hy]
      rfl
    rw [e, add_mul, BitVec.xor_assoc]
  | succ i ih =>
    have e : (ys.set 0 (ys.getD 0 0#8 ^^^ t)).getD (i + 1) 0#8 = ys.getD (i + 1) 0#8 := by
      rw [List.getD_eq_getElem?_getD, List.getElem?_set_ne (by omega), ← List.getD_eq_getElem?_getD]
    rw [Lag.sum, ih (by omega), Lag.sum xs ys (i + 1 + 1) |> fun _ => show Lag.sum xs ys (i + 1 + 1) = Lag.sum xs ys (i + 1) ^^^ prod xs ys (i + 1) xs.length from rfl, prod_all xs _ (i + 1) hi, prod_all xs _ (i + 1) hi, e, BitVec.xor_assoc, BitVec.xor_comm (mul t _), ← BitVec.xor_assoc]
/-- Another value at the first point is another one at 0. -/
theorem turned (xs ys : List B) (t : B) (hok : ok xs) (hl : 0 < xs.length) (hy : 0 < ys.length) (ht : t ≠ 0#8) : atZero xs (ys.set 0 (ys.getD 0 0#8 ^^^ t)) ≠ atZero xs ys := by
  unfold atZero
  obtain ⟨m, hm⟩ : ∃ m, xs.length = m + 1 := ⟨xs.length - 1, by omega⟩
  rw [hm, sum_set xs ys t hl hy m (by omega)]
  intro e
  have h2 : mul t (coef xs 0) = 0#8 := by
    have := congrArg (Lag.sum xs ys (m + 1) ^^^ ·) e
    simp only [← BitVec.xor_assoc, BitVec.xor_self, BitVec.zero_xor] at this
    exact this
  exact mul_ne _ _ ht (coef_ne xs hok hl) h2
end Go.Proofs.Ytglnepokollijaa.LagT
