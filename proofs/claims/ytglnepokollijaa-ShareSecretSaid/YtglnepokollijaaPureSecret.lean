/- What is said here: fewer shares tell nothing: the draws with which another secret has the same few shares: as lists alone. -/
import Derived.Test.YtglnepokollijaaShare2
import Derived.Test.YtglnepokollijaaPureTaken
import Derived.Test.YtglnepokollijaaPureThrough
namespace Go.Proofs.Ytglnepokollijaa.PureSecret
set_option linter.unusedVariables false
set_option linter.unusedSimpArgs false
open Go.RowKit Go.Proofs.YtglnepokollijaaW.PrintWords Go.Proofs.YtglnepokollijaaW.PrintLast
open Gf Gfi Poly Share PureTaken

theorem xB_inj {p q : Nat} (hp : p < 16) (hq : q < 16) (h : Share.xB p = Share.xB q) : p = q := by
  have := congrArg ofB h
  rw [Share.xB_int p (by omega), Share.xB_int q (by omega)] at this
  omega
theorem xB_ne {p : Nat} (hp : p < 16) : Share.xB p ≠ 0#8 := by
  intro h
  have := congrArg ofB h
  rw [Share.xB_int p (by omega), ofB_zero] at this
  omega
theorem yr_full (bs ds : List B) (k : Nat) (x : B) : Share.yr bs ds k x bs.length = ints ((List.range bs.length).map (Share.yb bs ds k x)) := by
  unfold Share.yr
  rw [Nat.sub_self, List.replicate_zero, List.append_nil]
theorem range_get (f : Nat → B) (n j : Nat) (h : j < n) : ((List.range n).map f).getD j 0#8 = f j := by
  rw [List.getD_eq_getElem?_getD, List.getElem?_map, List.getElem?_range h]
  rfl
/-- Draws behind draws leave what the first ones make. -/
theorem yb_app (os D E : List B) (kk : Nat) (x : B) (j : Nat) (h : (kk - 1) * (j + 1) ≤ D.length) : yb os (D ++ E) kk x j = yb os D kk x j := by
  unfold yb
  rw [List.take_append_of_le_length h]
theorem yb_new (os D E : List B) (t : Nat) (x : B) (j : Nat) (h : D.length = t * j) (hE : E.length = t) : yb os (D ++ E) (t + 1) x j = ev x (os.getD j 0#8 :: E) := by
  unfold yb
  have e : ((D ++ E).take ((t + 1 - 1) * (j + 1))).drop ((t + 1 - 1) * j) = E := by
    rw [Nat.add_sub_cancel, List.take_of_length_le (by rw [List.length_append, h, hE, Nat.mul_succ]; exact Nat.le_refl _), ← h, List.drop_left]
  rw [e]
  rfl
section
variable {bs ds os : List B} {t n : Nat} {at_ : List Int}
/-- The points that are known of byte j. -/
def Xp (l : List Int) : List B := 0#8 :: l.map fun p => xB p.toNat
def Yp (bs ds os : List B) (t j : Nat) (l : List Int) : List B := os.getD j 0#8 :: l.map fun p => yb bs ds (t + 1) (xB p.toNat) j
theorem Xp_nodup (hn : n ≤ 16) (hp : Places n at_) : (Xp at_).Nodup := by
  unfold Xp
  rw [List.nodup_cons]
  constructor
  · intro h
    obtain ⟨p, h1, h2⟩ := List.mem_map.1 h
    have := hp.rg p h1
    exact xB_ne (by omega) h2
  · refine List.pairwise_iff_getElem.2 (fun i j hi hj hij => ?_)
    rw [List.length_map] at hi hj
    rw [List.getElem_map, List.getElem_map]
    intro e
    have h1 := hp.rg _ (List.getElem_mem hi)
    have h2 := hp.rg _ (List.getElem_mem hj)
    have := xB_inj (by omega) (by omega) e
    exact (List.pairwise_iff_getElem.1 hp.nd i j hi hj hij) (by omega)
/-- The draws that are made. -/
structure Made (bs ds os D : List B) (t : Nat) (at_ : List Int) (j : Nat) : Prop where
  len : D.length = t * j
  like : ∀ p ∈ at_, ∀ i, i < j → yb os D (t + 1) (xB p.toNat) i = yb bs ds (t + 1) (xB p.toNat) i
theorem next (hn : n ≤ 16) (htn : t + 1 ≤ n) (hp : Places n at_) (hat : at_.length = t) (D : List B) (j : Nat) (hm : Made bs ds os D t at_ j) :
    ∃ (c0 : B) (E : List B) (K : Nat), PV.ciboriumlaw04_through.f K (ints (Xp at_)) (ints (Yp bs ds os t j at_)) = some (ints (c0 :: E)) ∧ E.length = t ∧ Made bs ds os (D ++ E) t at_ (j + 1) := by
  have hXl : (Xp at_).length = t + 1 := by unfold Xp; rw [List.length_cons, List.length_map, hat]
  have hYl : (Yp bs ds os t j at_).length = t + 1 := by unfold Yp; rw [List.length_cons, List.length_map, hat]
  obtain ⟨cs, ⟨hcl, hce⟩, K1, hK1⟩ := PureThrough.through_f (Xp at_) (Yp bs ds os t j at_) (Xp_nodup hn hp) (by omega) (by omega)
  rw [hXl] at hcl hce
  match cs, hcl with
  | c0 :: E, hcl =>
  have hE : E.length = t := by simpa using hcl
  have h0 := hce 0 (by omega)
  have hc0 : c0 = os.getD j 0#8 := by
    have h : c0 ^^^ mul 0#8 (ev 0#8 E) = os.getD j 0#8 := h0
    rwa [zero_mul, BitVec.xor_zero] at h
  have hmade : Made bs ds os (D ++ E) t at_ (j + 1) := by
    refine ⟨by rw [List.length_append, hm.len, hE, Nat.mul_succ], fun p hpp i hi => ?_⟩
    by_cases e : i = j
    · subst e
      rw [yb_new os D E t _ i hm.len hE, ← hc0]
      obtain ⟨q, hq, rfl⟩ := List.mem_iff_getElem.1 hpp
      have h1 := hce (q + 1) (by omega)
      have e1 : (Xp at_).getD (q + 1) 0#8 = xB at_[q].toNat := by
        unfold Xp
        rw [List.getD_eq_getElem?_getD, List.getElem?_cons_succ, List.getElem?_map, List.getElem?_eq_getElem hq]
        rfl
      have e2 : (Yp bs ds os t i at_).getD (q + 1) 0#8 = yb bs ds (t + 1) (xB at_[q].toNat) i := by
        unfold Yp
        rw [List.getD_eq_getElem?_getD, List.getElem?_cons_succ, List.getElem?_map, List.getElem?_eq_getElem hq]
        rfl
      rw [e1, e2] at h1
      exact h1
    · rw [yb_app os D E _ _ _ (by rw [hm.len, Nat.add_sub_cancel]; exact Nat.mul_le_mul_left _ (by omega))]
      exact hm.like p hpp i (by omega)
  exact ⟨c0, E, K1, hK1 K1 (Nat.le_refl _), hE, hmade⟩
theorem done (ho : os.length = bs.length) (D : List B) (hm : Made bs ds os D t at_ bs.length) : ∀ p ∈ at_, yr os D (t + 1) (xB p.toNat) os.length = yr bs ds (t + 1) (xB p.toNat) bs.length := fun p hpp => by
  rw [yr_full, yr_full, ho]
  congr 1
  exact List.map_congr_left (fun i hi => hm.like p hpp i (List.mem_range.1 hi))
theorem Xp_snoc (l : List Int) (p : Int) : ints (Xp l) ++ [ofB (xB p.toNat)] = ints (Xp (l ++ [p])) := by
  unfold Xp ints
  rw [List.map_append, List.map_cons, List.map_cons, List.map_append]
  rfl
theorem Yp_snoc (j : Nat) (l : List Int) (p : Int) : ints (Yp bs ds os t j l) ++ [ofB (yb bs ds (t + 1) (xB p.toNat) j)] = ints (Yp bs ds os t j (l ++ [p])) := by
  unfold Yp ints
  rw [List.map_append, List.map_cons, List.map_cons, List.map_append]
  rfl
theorem Xp_len (l : List Int) : (Xp l).length = l.length + 1 := by unfold Xp; rw [List.length_cons, List.length_map]
theorem Yp_len (j : Nat) (l : List Int) : (Yp bs ds os t j l).length = l.length + 1 := by unfold Yp; rw [List.length_cons, List.length_map]
end
end Go.Proofs.Ytglnepokollijaa.PureSecret
