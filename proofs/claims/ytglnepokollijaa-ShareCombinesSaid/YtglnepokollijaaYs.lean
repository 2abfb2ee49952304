/- What is said here: ys makes the list of the shares' rows, in new memory; two rows are put behind such a list. -/
import Derived.Test.YtglnepokollijaaApart4
import Derived.Outline
import Derived.LoopTactic
namespace Go.Proofs.Ytglnepokollijaa.Ys
set_option linter.unusedVariables false
set_option linter.unusedSimpArgs false
open Go.RowKit Go.Proofs.Ytglnepokollijaa.Row Go.Proofs.YtglnepokollijaaW.PrintWords Go.Proofs.YtglnepokollijaaW.PrintLast Go.Proofs.YtglnepokollijaaW.PrintMore

/-- The rows of shares that can be read. -/
def Rows (W : World) (A : Option Addr) (n : Nat) (us : Nat → Value) : Prop :=
  0 < n → ∃ ad, A = some ad ∧ ∀ q, q < n → W.cell? ⟨(ad.add (q * 2)).block, (ad.add (q * 2)).off + 1, none⟩ = some (us q) ∧ ∃ B l d, us q = .slice B l d
theorem Rows.below {W W' : World} {A : Option Addr} {n : Nat} {us : Nat → Value} (h : Rows W A n us) (hb : Below W.heap.size W W') : Rows W' A n us := by
  intro hn
  obtain ⟨ad, e, hc⟩ := h hn
  exact ⟨ad, e, fun q hq => ⟨(hb.cell (World.block_lt_of_cell? _ _ (hc q hq).1)).trans (hc q hq).1, (hc q hq).2⟩⟩

set_option maxHeartbeats 2000000 in
theorem ys_calls (A : Option Addr) (n c : Nat) (us : Nat → Value) (w : World) (h : Rows w A n us) (hn : n ≤ 1000000) :
    Calls Try.prog 14 #[.slice A n c] w fun e w' => ∃ v, e = .returned v ∧ IsV w' w.heap.size v (Apart.rows n us) ∧ Below w.heap.size w w' := by
  have H := Lib.hid h
  clear h
  go_enter Try.func14, Try.ntmps14
  go_wp2_with fail
  go_loopw [3, 4] (fun v3 v4 wr => ∃ i : Nat, i ≤ n ∧ v4 = .int .i64 (i : Int) ∧ Hid (IsV wr w.heap.size v3 (Apart.rows i us)) ∧ Hid (Below w.heap.size w wr)) (fun _ v4 _ => n - (intOf v4).toNat)
  case atStart => exact ⟨0, by omega, rfl, IsV.nil _ _, Below.refl _ _⟩
  case round =>
    obtain ⟨i, hi, rfl, HV, HB⟩ := hrel
    by_cases hlt : i < n
    · obtain ⟨ad, rfl, hc⟩ := H.out (by omega)
      obtain ⟨hx, B, l, d, hu⟩ := hc i hlt
      have hx := (HB.out.cell (World.block_lt_of_cell? _ _ hx)).trans hx
      rw [hu] at hx
      have HU := Lib.hid hu
      clear hc hu
      go_wp2_with (refine appendV w.heap.size _ _ u3 _ (Apart.rows i us) rfl rfl rfl rfl HV.out rfl HB.out.size (by rw [Apart.rows_len]; omega) ?_; intro v3 w3 h1 h2 h3)
      have e : Apart.rows i us ++ [.slice B l d] = Apart.rows (i + 1) us := by
        rw [← HU.out]
        simp [Apart.rows, List.range_succ]
      rw [e] at h1
      have HV3 := Lib.hid h1
      have HB3 : Hid (Below w.heap.size w w3) := HB.out.trans h2
      clear h1 h2 h3 HV HB hx e
      go_wp2
      go_roundw
      case rel => exact ⟨i + 1, by omega, by go_num, HV3, HB3⟩
      case measure => simp [intOf]; omega
    · obtain rfl : n = i := by omega
      go_wp2
      go_ret
      exact ⟨_, rfl, HV.out, HB.out⟩
section
variable {W : World} {ops : Array Oper} {Q : Exit → Act → World → Prop} {a : Act} {rest : List Oper} {o : Oper}
/-- Slices are appended. -/
theorem appendVs (base : Nat) (s x : Operand) (v : Value) (new vs : List Value) (hgd : o.guard = none) (ho : o.op = .call { callee := .builtin .append, args := #[s, x], argTypes := #[33, 33] })
    (hs : a.eval s = v) (hx : a.eval x = .slice (some ⟨W.heap.size, 0, none⟩) new.length new.length) (HO : IsV W base v vs) (hu : ∀ u ∈ new, u.oneCell' = true) (hbase : base ≤ W.heap.size) (hl : vs.length ≤ 1000000000) (hn : new.length ≤ 1000000)
    (h : ∀ v1 w1, IsV w1 base v1 (vs ++ new) → Below base W w1 → W.grownBy w1 v.ownBlock → wpList Try.prog ops Q rest (a.put o.dst v1) w1) :
    wpList Try.prog ops Q (o :: rest) a (W.alloc (.cells new.toArray 22)) := by
  obtain ⟨i0, hi0, hz0, hsz0, hb0⟩ := info_parts infoV
  have hnew : ∀ j u', new[j]? = some u' → (W.alloc (.cells new.toArray 22)).cell? ((⟨W.heap.size, 0, none⟩ : Addr).add j) = some u' := by
    intro j u' hj
    have h1 := Blk.Is.cell (Blk.Is.new W new.toArray 22) j
    have : (⟨W.heap.size, 0, none⟩ : Addr).add j = ⟨W.heap.size, j, none⟩ := by simp [Addr.add]; omega
    rw [this, h1, List.getElem?_toArray, hj]
  refine wpList_append_own _ hgd s x 33 ho base 22 i0 (.slice none 0 0) 1 24 Try.underlying33 hi0 hz0 hsz0 hb0 rfl (by decide) v vs.length vs hs (HO.alloc _) ⟨W.heap.size, 0, none⟩ new.length new.length new hx (by omega) hnew hu (by unfold maxLen; omega) (by omega) (by simp; omega) ?_
  intro v1 w1 ho1 hg1 _
  have hgr : W.grownBy w1 v.ownBlock := ⟨hg1.os, hg1.tape, hg1.output, Nat.le_trans (by simp) hg1.size, fun k hk hne => (hg1.block k (by simp; omega) hne).trans (Below.heap_alloc W _ k hk)⟩
  refine h v1 w1 ?_ ⟨hgr.os, hgr.tape, hgr.output, hgr.size, fun k hk => hgr.block k (by omega) (fun e => by have := (HO.lt k e.symm).1; omega)⟩ hgr
  unfold IsV
  rw [List.length_append]
  exact ho1
end
end Go.Proofs.Ytglnepokollijaa.Ys
