/- What is said here: the value at 0 of the points of a polynomial, as the document has it, and as logarithms tell it. It speaks of no program. -/
import Derived.Test.YtaadeokgcacibaaPoly
namespace Go.Proofs.Ytaadeokgcacibaa.Lag
set_option linter.unusedVariables false
set_option linter.unusedSimpArgs false
open Go.Proofs.Ytaadeokgcacibaa.Gf Go.Proofs.Ytaadeokgcacibaa.Gfi Go.Proofs.Ytaadeokgcacibaa.Poly

/-- Points that may be: none is 0, no two are the same. -/
def ok (l : List B) : Prop := l.Nodup ∧ 0#8 ∉ l
instance (l : List B) : Decidable (ok l) := by unfold ok; infer_instance
theorem ok_nil : ok [] := ⟨List.nodup_nil, by simp⟩
theorem ok_snoc (l : List B) (x : B) : ok (l ++ [x]) ↔ ok l ∧ x ≠ 0#8 ∧ x ∉ l := by
  unfold ok
  rw [List.nodup_append]
  simp only [List.mem_append, List.mem_singleton, List.nodup_cons, List.not_mem_nil, not_false_eq_true, List.nodup_nil, and_self, true_and]
  constructor
  · rintro ⟨⟨h1, h2⟩, h3⟩
    exact ⟨⟨h1, fun h => h3 (.inl h)⟩, fun h => h3 (.inr h.symm), fun h => h2 x h x rfl rfl⟩
  · rintro ⟨⟨h1, h2⟩, h3, h4⟩
    exact ⟨⟨h1, fun a ha b hb e => h4 (by rw [hb] at e; rwa [e] at ha)⟩, fun h => h.elim h2 (fun e => h3 e.symm)⟩
theorem take_snoc (l : List B) (k : Nat) (h : k < l.length) : l.take (k + 1) = l.take k ++ [l.getD k 0#8] := by
  rw [List.take_succ_eq_append_getElem h, List.getD_eq_getElem?_getD, List.getElem?_eq_getElem h]
  rfl
theorem ok_take {l : List B} (h : ok l) (k : Nat) : ok (l.take k) := ⟨(List.take_sublist k l).nodup h.1, fun hm => h.2 (List.mem_of_mem_take hm)⟩
theorem getD_mem (l : List B) (k : Nat) (h : k < l.length) : l.getD k 0#8 ∈ l := by
  rw [List.getD_eq_getElem?_getD, List.getElem?_eq_getElem h]
  exact List.getElem_mem h
theorem getD_ne {l : List B} (h : ok l) (k : Nat) (hk : k < l.length) : l.getD k 0#8 ≠ 0#8 := fun e => h.2 (by rw [← e]; exact getD_mem l k hk)
theorem getD_inj {l : List B} (h : ok l) {i k : Nat} (hi : i < l.length) (hk : k < l.length) (hne : i ≠ k) : l.getD i 0#8 ≠ l.getD k 0#8 := by
  rw [List.getD_eq_getElem?_getD, List.getD_eq_getElem?_getD, List.getElem?_eq_getElem hi, List.getElem?_eq_getElem hk]
  intro e
  exact hne ((List.getElem_inj h.1).1 e)
/-- There are no more than 255 such points. -/
theorem length_le_of_subset {α : Type} [DecidableEq α] (l : List α) : ∀ u : List α, l.Nodup → (∀ x, x ∈ l → x ∈ u) → l.length ≤ u.length := by
  induction l with
  | nil => intro u _ _; simp
  | cons a l ih =>
    intro u hn hs
    have h1 := ih (u.erase a) (List.nodup_cons.1 hn).2 (fun x hx => by
      have hne : x ≠ a := fun e => (List.nodup_cons.1 hn).1 (e ▸ hx)
      exact (List.mem_erase_of_ne hne).2 (hs x (List.mem_cons_of_mem _ hx)))
    have ha := hs a List.mem_cons_self
    rw [List.length_erase_of_mem ha] at h1
    have := List.length_pos_of_mem ha
    simp only [List.length_cons]
    omega
theorem ok_length {l : List B} (h : ok l) : l.length ≤ 255 := by
  have := length_le_of_subset l ((List.range 255).map fun i => BitVec.ofNat 8 (i + 1)) h.1 (fun x hx => by
    have hx0 : x ≠ 0#8 := fun e => h.2 (e ▸ hx)
    have hn : x.toNat ≠ 0 := fun e => hx0 (BitVec.eq_of_toNat_eq e)
    have hlt := x.isLt
    rw [List.mem_map]
    refine ⟨x.toNat - 1, List.mem_range.2 (by omega), ?_⟩
    rw [Nat.sub_add_cancel (by omega)]
    simp)
  simpa using this

section
variable (xs ys : List B)
/-- Term i, over the first k places. -/
def prod (i : Nat) : Nat → B
  | 0 => ys.getD i 0#8
  | k + 1 => if k = i then prod i k else mul (prod i k) (mul (xs.getD k 0#8) (inv (xs.getD k 0#8 ^^^ xs.getD i 0#8)))
/-- The sum of the first i terms. -/
def sum : Nat → B
  | 0 => 0#8
  | i + 1 => sum i ^^^ prod xs ys i xs.length
/-- The exponent of term i, over the first k places. -/
def inn (i : Nat) : Nat → Nat
  | 0 => lg (ys.getD i 0#8)
  | k + 1 => inn i k + if k = i then 0 else lg (xs.getD k 0#8) + 255 - lg (xs.getD k 0#8 ^^^ xs.getD i 0#8)
/-- The sum of the first i terms, by logarithms. -/
def acc : Nat → B
  | 0 => 0#8
  | i + 1 => acc i ^^^ if ys.getD i 0#8 = 0#8 then 0#8 else p3 (inn xs ys i xs.length % 255)
theorem inn_le (i k : Nat) : inn xs ys i k ≤ 254 + 509 * k := by
  induction k with
  | zero =>
    rw [inn]
    have := lg_lt (ys.getD i 0#8)
    omega
  | succ k ih =>
    rw [inn]
    have := lg_lt (xs.getD k 0#8)
    split <;> omega
end
/-- The value at 0. -/
def atZero (xs ys : List B) : B := sum xs ys xs.length

theorem xor_ne {a b : B} (h : a ≠ b) : a ^^^ b ≠ 0#8 := by
  intro e
  apply h
  have := congrArg (· ^^^ b) e
  simpa [BitVec.xor_assoc] using this
theorem dv_p3 {a b : B} (ha : a ≠ 0#8) (hb : b ≠ 0#8) : mul a (inv b) = p3 (lg a + 255 - lg b) := by
  have := lg_lt b
  rw [inv, if_neg hb]
  conv => lhs; arg 1; rw [← p3_lg a ha]
  rw [← p3_add]
  congr 1
  omega
theorem prod_zero (xs ys : List B) (i : Nat) (h : ys.getD i 0#8 = 0#8) (k : Nat) : prod xs ys i k = 0#8 := by
  induction k with
  | zero => exact h
  | succ k ih =>
    rw [prod]
    split
    · exact ih
    · rw [ih, zero_mul]
theorem prod_p3 {xs : List B} (hok : ok xs) (ys : List B) {i : Nat} (hi : i < xs.length) (h : ys.getD i 0#8 ≠ 0#8) (k : Nat) (hk : k ≤ xs.length) : prod xs ys i k = p3 (inn xs ys i k) := by
  induction k with
  | zero => exact (p3_lg _ h).symm
  | succ k ih =>
    rw [prod, inn]
    by_cases hki : k = i
    · rw [if_pos hki, if_pos hki, Nat.add_zero, ih (by omega)]
    · rw [if_neg hki, if_neg hki, ih (by omega), p3_add, dv_p3 (getD_ne hok k (by omega)) (xor_ne (getD_inj hok (by omega) hi hki))]
theorem acc_sum {xs : List B} (hok : ok xs) (ys : List B) (i : Nat) (hi : i ≤ xs.length) : acc xs ys i = sum xs ys i := by
  induction i with
  | zero => rfl
  | succ i ih =>
    rw [acc, sum, ih (by omega)]
    by_cases h : ys.getD i 0#8 = 0#8
    · rw [if_pos h, prod_zero xs ys i h]
    · rw [if_neg h, p3_mod, prod_p3 hok ys (by omega) h _ (Nat.le_refl _)]
theorem atZero_acc {xs : List B} (hok : ok xs) (ys : List B) : atZero xs ys = acc xs ys xs.length := (acc_sum hok ys _ (Nat.le_refl _)).symm
end Go.Proofs.Ytaadeokgcacibaa.Lag
