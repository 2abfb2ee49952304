/- What is said here: which of two patterns says more, as path.More tells. -/
import Derived.Test.YtilhpgjohpekkaaDoorPMore
import Derived.Outline
namespace Go.Proofs.YtilhpgjohpekkaaDoor.PMore
set_option linter.unusedVariables false
set_option linter.unusedSimpArgs false
open PLib PSplit PathPure
open Go.RowKit Go.Proofs.YtilhpgjohpekkaaDoorW.PrintWords Go.Proofs.YtilhpgjohpekkaaDoorW.PrintLast Go.Proofs.YtilhpgjohpekkaaDoorW.PrintMore

def fv (k : Nat) : Value := .func (.func k) #[] #[]
set_option maxHeartbeats 2000000 in
set_option maxRecDepth 100000 in
theorem questions_calls (w : World) :
    Calls Tryd.prog 42 #[] w fun e w' => e = .returned (.slice (some ⟨w.heap.size, 0, none⟩) 5 5) ∧ w' = w.alloc (.cells #[fv 58, fv 61, fv 62, fv 63, fv 64] 38 (0, 0)) := by
  go_enter Tryd.func42, Tryd.ntmps42
  go_wp2
  go_ret
  exact ⟨rfl, rfl⟩

/-! A pattern's bytes. -/
theorem mem_segs (l : List UInt8) : ∀ y ∈ l, y = 47 ∨ ∃ s ∈ segs 47 l, y ∈ s := by
  induction l with
  | nil => intro y h; simp at h
  | cons x l ih =>
    intro y h
    rw [segs]
    by_cases hx : x = 47
    · rw [if_pos hx]
      rcases List.mem_cons.1 h with rfl | h
      · exact Or.inl hx
      · rcases ih y h with h1 | ⟨s, hs, hy⟩
        · exact Or.inl h1
        · exact Or.inr ⟨s, List.mem_cons_of_mem _ hs, hy⟩
    · rw [if_neg hx]
      have hne := segs_ne 47 l
      cases hs : segs 47 l with
      | nil => exact absurd hs hne
      | cons a t =>
        rw [hs] at ih
        rcases List.mem_cons.1 h with rfl | h
        · exact Or.inr ⟨y :: a, by simp, by simp⟩
        · rcases ih y h with h1 | ⟨s, hs, hy⟩
          · exact Or.inl h1
          · rcases List.mem_cons.1 hs with rfl | hs
            · exact Or.inr ⟨x :: s, by simp, by simp [hy]⟩
            · exact Or.inr ⟨s, by simp [hs], hy⟩
theorem let_small (x : ByteArray) (h : letS x = true) : ∀ y ∈ x.data.toList, y.toNat < 128 := by
  intro y hy
  unfold letS at h
  rw [Bool.and_eq_true, List.all_eq_true] at h
  have := h.1 ((y.toNat : Nat) : Int) (by unfold bytesOf; exact List.mem_map.2 ⟨y, hy, rfl⟩)
  unfold letB at this
  rw [decide_eq_true_eq] at this
  omega
theorem okP_small (n i : Nat) (x : ByteArray) (h : okP n i x = true) : ∀ y ∈ x.data.toList, y.toNat < 128 := by
  unfold okP at h
  rw [Bool.or_eq_true, Bool.or_eq_true, Bool.and_eq_true] at h
  rcases h with h | h | ⟨h, _⟩
  · unfold segB at h
    rw [Bool.and_eq_true] at h
    exact let_small x h.1
  · rw [decide_eq_true_eq, toL] at h
    intro y hy
    rw [h, List.mem_singleton] at hy
    rw [hy]
    decide
  · have hh := h
    unfold starB at hh
    rw [Bool.and_eq_true, Bool.and_eq_true, decide_eq_true_eq, decide_eq_true_eq] at hh
    obtain ⟨h0, h1, h2⟩ := hh
    have hd := size_data x
    have hl := let_small _ h2
    rw [extract_txt, txt_list, List.drop_zero] at hl
    have hlast := (bt_eq x (x.size - 1) (by omega) 42).1 h1
    intro y hy
    have e := List.take_append_drop (x.size - 1) x.data.toList
    rw [List.drop_eq_getElem_cons (by omega), List.drop_eq_nil_of_le (by omega), hlast] at e
    rw [← e, List.mem_append, List.mem_singleton] at hy
    rcases hy with hy | rfl
    · exact hl y hy
    · decide
theorem okAll_mem (n : Nat) (L : List ByteArray) : ∀ i, okAll n i L = true → ∀ x ∈ L, ∃ j, okP n j x = true := by
  induction L with
  | nil => intro i _ x hx; simp at hx
  | cons z L ih =>
    intro i h x hx
    rw [okAll, Bool.and_eq_true] at h
    rcases List.mem_cons.1 hx with rfl | hx
    · exact ⟨i, h.1⟩
    · exact ih (i + 1) h.2 x hx
theorem pat_facts (s : ByteArray) (h : patR s = 0) : longB s = false ∧ okAll (pieces 47 s).length 0 (pieces 47 s) = true := by
  unfold patR at h
  cases hL : longB s with
  | true => rw [hL, if_pos rfl] at h; exact absurd h (by decide)
  | false =>
    rw [hL, if_neg (by decide)] at h
    by_cases ha : okAll (pieces 47 s).length 0 (pieces 47 s) = true
    · exact ⟨rfl, ha⟩
    · rw [if_neg ha] at h; exact absurd h (by decide)
theorem pat_ascii (s : ByteArray) (h : patR s = 0) : Ascii s := by
  intro j b hb
  have hm : b ∈ s.data.toList := List.mem_of_getElem? hb
  rcases mem_segs _ b hm with rfl | ⟨p, hp, hbp⟩
  · decide
  · obtain ⟨_, ha⟩ := pat_facts s h
    obtain ⟨j, hj⟩ := okAll_mem _ _ 0 ha (txt p) (List.mem_map.2 ⟨p, hp, rfl⟩)
    exact okP_small _ j _ hj b (by rw [txt_list]; exact hbp)

/-- The answers, one behind the other: the first that is not 0. -/
def moreQ (a b : ByteArray) : Int := if q1 a b ≠ 0 then q1 a b else if q2 a b ≠ 0 then q2 a b else if q3 a b ≠ 0 then q3 a b else if q4 a b ≠ 0 then q4 a b else q5 a b
/-- path.More. -/
def moreR (a b : ByteArray) : Int := if patR a = 0 then (if patR b = 0 then moreQ a b else 1) else (if patR b = 0 then -1 else 0)
def qn (a b : ByteArray) (i : Nat) : Int := match i with | 0 => q1 a b | 1 => q2 a b | 2 => q3 a b | 3 => q4 a b | _ => q5 a b
theorem moreQ_at (a b : ByteArray) (i : Nat) (hi : i < 5) (h : ∀ j, j < i → qn a b j = 0) (hq : qn a b i ≠ 0) : moreQ a b = qn a b i := by
  have h0 := h 0; have h1 := h 1; have h2 := h 2; have h3 := h 3
  simp only [qn] at h0 h1 h2 h3
  unfold moreQ
  rcases (show i = 0 ∨ i = 1 ∨ i = 2 ∨ i = 3 ∨ i = 4 by omega) with rfl | rfl | rfl | rfl | rfl <;> simp only [qn] at hq ⊢
  · rw [if_pos hq]
  · rw [if_neg (by rw [h0 (by decide)]; decide), if_pos hq]
  · rw [if_neg (by rw [h0 (by decide)]; decide), if_neg (by rw [h1 (by decide)]; decide), if_pos hq]
  · rw [if_neg (by rw [h0 (by decide)]; decide), if_neg (by rw [h1 (by decide)]; decide), if_neg (by rw [h2 (by decide)]; decide), if_pos hq]
  · rw [if_neg (by rw [h0 (by decide)]; decide), if_neg (by rw [h1 (by decide)]; decide), if_neg (by rw [h2 (by decide)]; decide), if_neg (by rw [h3 (by decide)]; decide)]
theorem moreQ_end (a b : ByteArray) (h : ∀ j, j < 5 → qn a b j = 0) : moreQ a b = 0 := by
  have h0 := h 0; have h1 := h 1; have h2 := h 2; have h3 := h 3; have h4 := h 4
  simp only [qn] at h0 h1 h2 h3 h4
  unfold moreQ
  rw [if_neg (by rw [h0 (by decide)]; decide), if_neg (by rw [h1 (by decide)]; decide), if_neg (by rw [h2 (by decide)]; decide), if_neg (by rw [h3 (by decide)]; decide)]
  exact h4 (by decide)
set_option maxHeartbeats 4000000 in
set_option maxRecDepth 100000 in
theorem more_calls (a b : ByteArray) (w : World) (hsa : a.size ≤ 1000000) (hsb : b.size ≤ 1000000) :
    Calls Tryd.prog 26 #[.string a, .string b] w fun e w' => e = .returned (.int .i64 (moreR a b)) ∧ Below w.heap.size w w' := by
  obtain ⟨r, hr⟩ : ∃ r, r = moreR a b := ⟨_, rfl⟩
  rw [← hr]
  have HR := Lib.hid hr
  clear hr
  have HPA := Lib.hid (ppat_f a hsa 500 (by decide))
  have HPB := Lib.hid (ppat_f b hsb 500 (by decide))
  have HAA := Lib.hid (pat_ascii a)
  have HAB := Lib.hid (pat_ascii b)
  go_enter Tryd.func26, Tryd.ntmps26
  go_wp2_with fail
  refine (PC.path_CheckPattern.calls 500 a (patR a) _ HPA.out).mono ?_
  rintro e w1 ⟨rfl, hb1⟩
  have HB1 := Lib.hid hb1
  clear hb1
  go_wp2_with fail
  refine (PC.path_CheckPattern.calls 500 b (patR b) _ HPB.out).mono ?_
  rintro e w2 ⟨rfl, hb2⟩
  have HB2 := Lib.hid (HB1.out.trans (hb2.mono HB1.out.size))
  clear hb2 HB1 HPA HPB
  have HR2 : Hid (r = if patR a = 0 then (if patR b = 0 then moreQ a b else 1) else (if patR b = 0 then -1 else 0)) := HR.out
  clear HR
  generalize patR a = pa at *
  generalize patR b = pb at *
  by_cases hA : pa = 0
  · subst hA
    by_cases hB : pb = 0
    · subst hB
      have HR : Hid (r = moreQ a b) := by
        show _ = _
        have := HR2.out
        rwa [if_pos rfl, if_pos rfl] at this
      have HAA2 := Lib.hid (HAA.out rfl)
      have HAB2 := Lib.hid (HAB.out rfl)
      clear HR2 HAA HAB
      go_wp2_with fail
      refine (questions_calls _).mono ?_
      rintro e w3 ⟨rfl, hw3⟩
      have hcell : ∀ j (h : j < 5), w3.cell? ⟨w2.heap.size, j, none⟩ = some (.func (.func ([58, 61, 62, 63, 64].getD j 0)) #[] #[]) := by
        intro j h
        rw [hw3, cell_of_row _ _ j _ _ (0, 0) (heap_alloc_new w2 _)]
        rcases (show j = 0 ∨ j = 1 ∨ j = 2 ∨ j = 3 ∨ j = 4 by omega) with rfl | rfl | rfl | rfl | rfl <;> rfl
      have hlt' : w2.heap.size < w3.heap.size := by rw [hw3]; simp
      have HC := Lib.hid hcell
      have HB4 : Hid (Below w.heap.size w w3) := by rw [hw3]; exact HB2.out.alloc HB2.out.size _
      clear hcell hw3 HB2
      have HB2 := HB4
      clear HB4
      generalize w2.heap.size = K at *
      go_wp2_with fail
      go_loopw [4, 8, 9, 29] (fun v4 v8 v9 v29 wr => ∃ i : Nat, i ≤ 5 ∧ v29 = .int .i64 (i : Int) ∧ Hid (∀ j, j < i → qn a b j = 0) ∧ Hid (Below w3.heap.size w3 wr)) (fun v4 v8 v9 v29 _ => 5 - (Go.RowKit.intOf v29).toNat)
      case atStart => exact ⟨0, by decide, rfl, fun j h => absurd h (Nat.not_lt_zero j), Below.refl _ _⟩
      case round =>
        obtain ⟨i, hi, rfl, HZ, HB⟩ := hrel
        by_cases hlt : i < 5
        · rcases (show i = 0 ∨ i = 1 ∨ i = 2 ∨ i = 3 ∨ i = 4 by omega) with rfl | rfl | rfl | rfl | rfl
          · have hc : wr.cell? ⟨K, 0, none⟩ = some (.func (.func 58) #[] #[]) := (HB.out.cell (p := ⟨K, 0, none⟩) hlt').trans (HC.out 0 (by decide))
            go_wp2_with fail
            refine (q1_calls a b _ hsa hsb HAA2.out HAB2.out).mono ?_
            rintro e w4 ⟨rfl, hb3⟩
            have HB3 := Lib.hid (HB.out.trans (hb3.mono HB.out.size))
            clear hb3 HB
            have HQI : Hid (qn a b 0 = q1 a b) := rfl
            generalize q1 a b = qv at *
            by_cases hq0 : qv = 0
            · subst hq0
              have HN : Hid (∀ j, j < 1 → qn a b j = 0) := fun j hj => by
                rcases Nat.lt_or_ge j 0 with h | h
                · exact HZ.out j h
                · obtain rfl : j = 0 := by omega
                  exact HQI.out
              clear HZ HQI
              go_wp2
              go_roundw
              case rel => exact ⟨1, by decide, rfl, HN.out, HB3.out⟩
              case measure => simp [Go.RowKit.intOf]
            · have HE : Hid (r = qv) := HR.out.trans ((moreQ_at a b 0 (by decide) HZ.out (by rw [HQI.out]; exact hq0)).trans HQI.out)
              clear HZ HQI HR
              go_wp2
              go_ret
              exact ⟨by rw [HE.out]; rfl, HB2.out.trans (HB3.out.mono HB2.out.size)⟩
          · have hc : wr.cell? ⟨K, 1, none⟩ = some (.func (.func 61) #[] #[]) := (HB.out.cell (p := ⟨K, 1, none⟩) hlt').trans (HC.out 1 (by decide))
            go_wp2_with fail
            refine (q2_calls a b _ hsa hsb).mono ?_
            rintro e w4 ⟨rfl, hb3⟩
            have HB3 := Lib.hid (HB.out.trans (hb3.mono HB.out.size))
            clear hb3 HB
            have HQI : Hid (qn a b 1 = q2 a b) := rfl
            generalize q2 a b = qv at *
            by_cases hq0 : qv = 0
            · subst hq0
              have HN : Hid (∀ j, j < 2 → qn a b j = 0) := fun j hj => by
                rcases Nat.lt_or_ge j 1 with h | h
                · exact HZ.out j h
                · obtain rfl : j = 1 := by omega
                  exact HQI.out
              clear HZ HQI
              go_wp2
              go_roundw
              case rel => exact ⟨2, by decide, rfl, HN.out, HB3.out⟩
              case measure => simp [Go.RowKit.intOf]
            · have HE : Hid (r = qv) := HR.out.trans ((moreQ_at a b 1 (by decide) HZ.out (by rw [HQI.out]; exact hq0)).trans HQI.out)
              clear HZ HQI HR
              go_wp2
              go_ret
              exact ⟨by rw [HE.out]; rfl, HB2.out.trans (HB3.out.mono HB2.out.size)⟩
          · have hc : wr.cell? ⟨K, 2, none⟩ = some (.func (.func 62) #[] #[]) := (HB.out.cell (p := ⟨K, 2, none⟩) hlt').trans (HC.out 2 (by decide))
            go_wp2_with fail
            refine (q3_calls a b _ hsa hsb).mono ?_
            rintro e w4 ⟨rfl, hb3⟩
            have HB3 := Lib.hid (HB.out.trans (hb3.mono HB.out.size))
            clear hb3 HB
            have HQI : Hid (qn a b 2 = q3 a b) := rfl
            generalize q3 a b = qv at *
            by_cases hq0 : qv = 0
            · subst hq0
              have HN : Hid (∀ j, j < 3 → qn a b j = 0) := fun j hj => by
                rcases Nat.lt_or_ge j 2 with h | h
                · exact HZ.out j h
                · obtain rfl : j = 2 := by omega
                  exact HQI.out
              clear HZ HQI
              go_wp2
              go_roundw
              case rel => exact ⟨3, by decide, rfl, HN.out, HB3.out⟩
              case measure => simp [Go.RowKit.intOf]
            · have HE : Hid (r = qv) := HR.out.trans ((moreQ_at a b 2 (by decide) HZ.out (by rw [HQI.out]; exact hq0)).trans HQI.out)
              clear HZ HQI HR
              go_wp2
              go_ret
              exact ⟨by rw [HE.out]; rfl, HB2.out.trans (HB3.out.mono HB2.out.size)⟩
          · have hc : wr.cell? ⟨K, 3, none⟩ = some (.func (.func 63) #[] #[]) := (HB.out.cell (p := ⟨K, 3, none⟩) hlt').trans (HC.out 3 (by decide))
            go_wp2_with fail
            refine (q4_calls a b _).mono ?_
            rintro e w4 ⟨rfl, hb3⟩
            have HB3 := Lib.hid (HB.out.trans (hb3.mono HB.out.size))
            clear hb3 HB
            have HQI : Hid (qn a b 3 = q4 a b) := rfl
            generalize q4 a b = qv at *
            by_cases hq0 : qv = 0
            · subst hq0
              have HN : Hid (∀ j, j < 4 → qn a b j = 0) := fun j hj => by
                rcases Nat.lt_or_ge j 3 with h | h
                · exact HZ.out j h
                · obtain rfl : j = 3 := by omega
                  exact HQI.out
              clear HZ HQI
              go_wp2
              go_roundw
              case rel => exact ⟨4, by decide, rfl, HN.out, HB3.out⟩
              case measure => simp [Go.RowKit.intOf]
            · have HE : Hid (r = qv) := HR.out.trans ((moreQ_at a b 3 (by decide) HZ.out (by rw [HQI.out]; exact hq0)).trans HQI.out)
              clear HZ HQI HR
              go_wp2
              go_ret
              exact ⟨by rw [HE.out]; rfl, HB2.out.trans (HB3.out.mono HB2.out.size)⟩
          · have hc : wr.cell? ⟨K, 4, none⟩ = some (.func (.func 64) #[] #[]) := (HB.out.cell (p := ⟨K, 4, none⟩) hlt').trans (HC.out 4 (by decide))
            go_wp2_with fail
            refine (q5_calls a b _).mono ?_
            rintro e w4 ⟨rfl, rfl⟩
            have HB3 := HB
            clear HB
            have HQI : Hid (qn a b 4 = q5 a b) := rfl
            generalize q5 a b = qv at *
            by_cases hq0 : qv = 0
            · subst hq0
              have HN : Hid (∀ j, j < 5 → qn a b j = 0) := fun j hj => by
                rcases Nat.lt_or_ge j 4 with h | h
                · exact HZ.out j h
                · obtain rfl : j = 4 := by omega
                  exact HQI.out
              clear HZ HQI
              go_wp2
              go_roundw
              case rel => exact ⟨5, by decide, rfl, HN.out, HB3.out⟩
              case measure => simp [Go.RowKit.intOf]
            · have HE : Hid (r = qv) := HR.out.trans ((moreQ_at a b 4 (by decide) HZ.out (by rw [HQI.out]; exact hq0)).trans HQI.out)
              clear HZ HQI HR
              go_wp2
              go_ret
              exact ⟨by rw [HE.out]; rfl, HB2.out.trans (HB3.out.mono HB2.out.size)⟩
        · obtain rfl : i = 5 := by omega
          have HE : Hid (r = 0) := HR.out.trans (moreQ_end a b HZ.out)
          clear HR HZ hlt hi
          go_wp2
          go_ret
          exact ⟨by rw [HE.out]; rfl, HB2.out.trans (HB.out.mono HB2.out.size)⟩
    · have HE : Hid (r = 1) := by
        show _ = _
        have := HR2.out
        rwa [if_pos rfl, if_neg hB] at this
      clear HR2 HAA HAB
      go_wp2
      go_ret
      exact ⟨by rw [HE.out]; rfl, HB2.out⟩
  · by_cases hB : pb = 0
    · subst hB
      have HE : Hid (r = -1) := by
        show _ = _
        have := HR2.out
        rwa [if_neg hA, if_pos rfl] at this
      clear HR2 HAA HAB
      go_wp2
      go_ret
      exact ⟨by rw [HE.out]; rfl, HB2.out⟩
    · have HE : Hid (r = 0) := by
        show _ = _
        have := HR2.out
        rwa [if_neg hA, if_neg hB] at this
      clear HR2 HAA HAB
      have hA1 : (pa != 0) = true := bne_iff_ne.2 hA
      have hB1 : (pb != 0) = true := bne_iff_ne.2 hB
      go_wp2
      go_ret
      exact ⟨by rw [HE.out]; rfl, HB2.out⟩
end Go.Proofs.YtilhpgjohpekkaaDoor.PMore
