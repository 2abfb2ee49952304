/- What is said here: what a reader answers of what was put. -/
import Derived.Test.YtengdchgfhcdhaaReader3
import Derived.Test.YtengdchgfhcdhaaPut
import Derived.Test.YtengdchgfhcdhaaStr
namespace Go.Proofs.Ytengdchgfhcdhaa.PureBack
set_option linter.unusedVariables false
set_option linter.unusedSimpArgs false
open Go.RowKit Go.Proofs.YtengdchgfhcdhaaW.PrintWords Go.Proofs.YtengdchgfhcdhaaW.PrintLast Go.Proofs.YtengdchgfhcdhaaW.PrintMore
open Reader Put

theorem orBits (x y : Nat) (hx : x < 18446744073709551616) (hy : y < 18446744073709551616) : Go.bits .or .u64 (x : Int) (y : Int) = ((x ||| y : Nat) : Int) := by
  have e : Go.bits .or .u64 (x : Int) (y : Int) = IntKind.u64.wrap (((BitVec.ofNat 64 x ||| BitVec.ofNat 64 y).toNat : Nat) : Int) := by
    have hx : BitVec.ofInt IntKind.u64.bits (x : Int) = BitVec.ofNat 64 x := BitVec.ofInt_natCast 64 x
    have hy : BitVec.ofInt IntKind.u64.bits (y : Int) = BitVec.ofNat 64 y := BitVec.ofInt_natCast 64 y
    unfold Go.bits
    simp only [hx, hy]
    rfl
  have h2 : x ||| y < 18446744073709551616 := Nat.lt_of_lt_of_le (Nat.or_lt_two_pow (n := 64) (Nat.lt_of_lt_of_le hx (by decide)) (Nat.lt_of_lt_of_le hy (by decide))) (by decide)
  have h3 : ((x ||| y : Nat) : Int) < ((18446744073709551616 : Nat) : Int) := Int.ofNat_lt.2 h2
  rw [e, BitVec.toNat_or, BitVec.toNat_ofNat, BitVec.toNat_ofNat, Nat.mod_eq_of_lt (Nat.lt_of_lt_of_le hx (by decide)), Nat.mod_eq_of_lt (Nat.lt_of_lt_of_le hy (by decide)), IntKind.wrap_u64]
  exact Int.emod_eq_of_lt (Int.natCast_nonneg _) h3
theorem step_eq (v x : Int) (h0 : 0 ≤ v) (h1 : v < 72057594037927936) (hx : 0 ≤ x) (hx2 : x < 256) : Reader.step v x = v * 256 + x := by
  obtain ⟨a, rfl⟩ := Int.eq_ofNat_of_zero_le h0
  obtain ⟨b, rfl⟩ := Int.eq_ofNat_of_zero_le hx
  have e0 : a * 256 + b = a * 256 ||| b := by
    have := Nat.shiftLeft_add_eq_or_of_lt (show b < 2 ^ 8 by omega) a
    rwa [Nat.shiftLeft_eq, show (2 : Nat) ^ 8 = 256 from rfl] at this
  have := orBits (a * 256) b (by omega) (by omega)
  rw [← e0] at this
  unfold Reader.step
  rw [IntKind.wrap_u64, IntKind.wrap_u64, Int.emod_eq_of_lt (by omega) (by omega), Int.emod_eq_of_lt (by omega) (by omega)]
  rw [show ((a : Int) * 256) = ((a * 256 : Nat) : Int) by omega, this]
  omega
theorem emod_of (n P q r : Int) (h : n = P * q + r) (h0 : 0 ≤ r) (h1 : r < P) : n % P = r := by
  subst h
  rw [Int.add_comm, Int.add_mul_emod_self_left]
  exact Int.emod_eq_of_lt h0 h1
theorem num_be (s : Nat) : ∀ n : Int, 0 ≤ n → s ≤ 8 → num (be n s) = n % 256 ^ s := by
  induction s with
  | zero => intro n h _; simp [be, num]
  | succ s ih =>
    intro n h hs
    have h1 := ih (n / 256) (by omega) (by omega)
    have hp : (256 : Int) ^ s ≤ 72057594037927936 := by
      have : s = 0 ∨ s = 1 ∨ s = 2 ∨ s = 3 ∨ s = 4 ∨ s = 5 ∨ s = 6 ∨ s = 7 := by omega
      rcases this with rfl | rfl | rfl | rfl | rfl | rfl | rfl | rfl <;> decide
    have h2 : 0 ≤ n / 256 % 256 ^ s := Int.emod_nonneg _ (Int.ne_of_gt (Int.pow_pos (by decide)))
    have h3 : n / 256 % 256 ^ s < 256 ^ s := Int.emod_lt_of_pos _ (Int.pow_pos (by decide))
    rw [be, num_snoc, h1, step_eq _ _ h2 (Int.lt_of_lt_of_le h3 hp) (by omega) (by omega)]
    have e : n % 256 ^ (s + 1) = 256 * (n / 256 % 256 ^ s) + n % 256 := by
      have e1 := Int.mul_ediv_add_emod n 256
      have e2 := Int.mul_ediv_add_emod (n / 256) (256 ^ s)
      have e3 : n = 256 ^ (s + 1) * (n / 256 / 256 ^ s) + (256 * (n / 256 % 256 ^ s) + n % 256) := by
        rw [Int.pow_succ, Int.mul_comm (256 ^ s) 256, Int.mul_assoc]
        omega
      have h4 : 256 * (n / 256 % 256 ^ s) + n % 256 < 256 ^ (s + 1) := by
        rw [Int.pow_succ]
        generalize (256 : Int) ^ s = P at *
        generalize n / 256 % P = q at *
        omega
      exact emod_of _ _ _ _ e3 (by omega) h4
    rw [e]
    omega

/-- A reader that stands before l. -/
def Before (s : St) (l rest : List Int) : Prop := s.e = 0 ∧ s.at_ ≤ s.bs.length ∧ s.bs.drop s.at_ = l ++ rest
theorem Before.take {s : St} {l rest : List Int} (h : Before s l rest) (n : Int) (hn : n = l.length) : s.takeL n = l ∧ s.takeS n = { s with at_ := s.at_ + l.length } ∧ Before { s with at_ := s.at_ + l.length } rest [] := by
  obtain ⟨he, ha, hd⟩ := h
  have hlen := congrArg List.length hd
  rw [List.length_drop, List.length_append] at hlen
  subst hn
  refine ⟨?_, ?_, he, by show s.at_ + l.length ≤ s.bs.length; omega, ?_⟩
  · rw [St.takeL, if_neg (fun h => h he), if_neg (by omega), if_neg (by omega), Int.toNat_natCast, hd, List.take_left]
  · rw [St.takeS, if_neg (fun h => h he), if_neg (by omega), if_neg (by omega), Int.toNat_natCast]
  · show s.bs.drop (s.at_ + l.length) = rest ++ []
    rw [← List.drop_drop, hd, List.drop_left, List.append_nil]
theorem Before.sub {s : St} {l r m : List Int} (h : Before s (l ++ r) m) : Before s l (r ++ m) := ⟨h.1, h.2.1, by rw [h.2.2, List.append_assoc]⟩
/-- Behind it. -/
def St.on (s : St) (n : Nat) : St := { s with at_ := s.at_ + n }
theorem Before.on {s : St} {l rest : List Int} (h : Before s l rest) : Before (St.on s l.length) rest [] := (h.take _ rfl).2.2

theorem text_of {s : St} {t : List Int} {rest : List Int} (h : Before s (be t.length 2 ++ t) rest) (ht : t.length < 65536) : s.textL = t ∧ s.textS = St.on s (2 + t.length) := by
  have h1 := h.sub
  obtain ⟨e1, e2, h2⟩ := h1.take 2 (by rw [be_length]; rfl)
  have hn : s.textN = t.length := by
    unfold St.textN
    rw [e1, num_be 2 _ (by omega) (by omega)]
    omega
  have h3 : Before { s with at_ := s.at_ + (be (t.length : Int) 2).length } t rest := ⟨h2.1, h2.2.1, by rw [h2.2.2, List.append_nil]⟩
  obtain ⟨f1, f2, _⟩ := h3.take (t.length : Int) rfl
  have g2 : s.textS = (s.takeS 2).takeS s.textN := by
    unfold St.textS
    rw [hn, e2, f2, if_neg (fun hx => hx h.1)]
  refine ⟨?_, ?_⟩
  · unfold St.textL
    rw [hn, e2, f1]
  · rw [g2, hn, e2, f2]
    unfold St.on
    rw [be_length]
    show ({ s with at_ := s.at_ + 2 + t.length } : St) = _
    congr 1
    omega

/-- An item's bytes. -/
def itemL (k v : Int) (t : ByteArray) : List Int :=
  if Int.tmod k 5 = 1 then be (v % 65536) 2 else if Int.tmod k 5 = 2 then be (v % 4294967296) 4 else if Int.tmod k 5 = 3 then be v 8 else if Int.tmod k 5 = 4 then be t.size 2 ++ bytesOf t else [v % 256]
theorem itemL_pos (k v : Int) (t : ByteArray) : 0 < (itemL k v t).length ∧ (itemL k v t).length ≤ t.size + 8 := by
  have h := bytesOf_length t
  unfold itemL
  split
  · rw [be_length]; omega
  · split
    · rw [be_length]; omega
    · split
      · rw [be_length]; omega
      · split
        · rw [List.length_append, be_length]; omega
        · simp
end Go.Proofs.Ytengdchgfhcdhaa.PureBack
