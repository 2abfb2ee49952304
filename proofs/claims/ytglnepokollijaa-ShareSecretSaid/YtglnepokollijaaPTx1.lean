/- What is said here: what the Go functions named below answer, each as a plain function with the proof that its call comes to that answer; written by a program out of the translation. No condition. -/
import Derived.Test.YtglnepokollijaaPTx0
namespace Go.Proofs.Ytglnepokollijaa.PT
open Go.RowKit Go.Proofs.YtglnepokollijaaW.PrintWords Go.Proofs.YtglnepokollijaaW.PrintLast Go.Proofs.YtglnepokollijaaW.PrintMore
attribute [local go_sem] max2_int min2_int max_two min_two max_three min_three max_four min_four   -- for this text's walks alone
set_option linter.unusedVariables false
set_option linter.unusedSimpArgs false

/-! ### field_Add: function 33 -/
def field_Add.f (a0 : Int) (a1 : Int) : Option (Int) := Go.Proofs.Ytglnepokollijaa.PA.field_Add.f a0 a1
theorem field_Add.calls (a0 : Int) (a1 : Int) (r : Int) (w : World) (h : field_Add.f a0 a1 = some r) :
    Calls Try.prog 33 #[.int .u8 a0, .int .u8 a1] w fun e w' => e = .returned (.int .u8 r) ∧ Drawn0 w w' := Go.Proofs.Ytglnepokollijaa.PA.field_Add.calls a0 a1 r w h


/-! ### field_Mul: function 34 -/
def field_Mul.f (k : Nat) (a0 : Int) (a1 : Int) : Option (Int) := Go.Proofs.Ytglnepokollijaa.PA.field_Mul.f k a0 a1
theorem field_Mul.mono : ∀ a0 a1 k, LeO (field_Mul.f k a0 a1) (field_Mul.f (k + 1) a0 a1) := Go.Proofs.Ytglnepokollijaa.PA.field_Mul.mono
theorem field_Mul.calls (k : Nat) (a0 : Int) (a1 : Int) (r : Int) (w : World) (h : field_Mul.f k a0 a1 = some r) :
    Calls Try.prog 34 #[.int .u8 a0, .int .u8 a1] w fun e w' => e = .returned (.int .u8 r) ∧ Drawn0 w w' := Go.Proofs.Ytglnepokollijaa.PA.field_Mul.calls k a0 a1 r w h


/-! ### field_Eval: function 35 -/
def field_Eval.f (k : Nat) (l0 : List Int) (a1 : Int) : Option (Int) := Go.Proofs.Ytglnepokollijaa.PA.field_Eval.f k l0 a1
theorem field_Eval.mono : ∀ a0 a1 k, LeO (field_Eval.f k a0 a1) (field_Eval.f (k + 1) a0 a1) := Go.Proofs.Ytglnepokollijaa.PA.field_Eval.mono
theorem field_Eval.calls (k : Nat) (A0 : Option Addr) (c0 : Nat) (l0 : List Int) (a1 : Int) (r : Int) (w : World) (hr0 : Kd.C (Kd.int .u8) w A0 l0.length l0) (hc0 : l0.length ≤ c0) (h : field_Eval.f k l0 a1 = some r) :
    Calls Try.prog 35 #[.slice A0 l0.length c0, .int .u8 a1] w fun e w' => e = .returned (.int .u8 r) ∧ Drawn0 w w' := Go.Proofs.Ytglnepokollijaa.PA.field_Eval.calls k A0 c0 l0 a1 r w hr0 hc0 h


/-! ### share_Split: function 10 -/
theorem split_S {W : World} {base : Nat} {v : Value} {n L : Nat} {b : Nat → Nat} {rows : Nat → List Int} (hS : Share.IsS W base v n b L) (hY : ∀ q, q < n → Row.Is W base (Share.sl b L q) (rows q)) (hO : ∀ p q, p < q → q < n → b p < b q) :
    Kd.S k44 44 W base (fun _ => True) v ((List.range n).map fun (q : Nat) => (⟨(q : Int) + 1, rows q⟩ : S44)) := by
  have hf : ∃ f : Nat → Nat, ∀ q, q < n → f (b q) = q := by
    classical
    refine ⟨fun k => if h : ∃ q, q < n ∧ b q = k then h.choose else 0, fun q hq => ?_⟩
    have hex : ∃ q', q' < n ∧ b q' = b q := ⟨q, hq, rfl⟩
    show (if h : ∃ q', q' < n ∧ b q' = b q then h.choose else 0) = q
    rw [dif_pos hex]
    have hs := hex.choose_spec
    rcases Nat.lt_trichotomy hex.choose q with h | h | h
    · have := hO _ _ h hq; omega
    · exact h
    · have := hO _ _ h hs.1; omega
  obtain ⟨f, hf⟩ := hf
  refine ⟨f, fun _ _ => trivial, Share.cellsS b L n, ?_, ?_⟩
  · rw [List.length_zipIdx, List.length_map, List.length_range]
    exact hS
  · refine ⟨by rw [Share.cellsS_len, List.length_zipIdx, List.length_map, List.length_range]; rfl, fun j p hj => ?_⟩
    have hjn : j < n := by
      have := (List.getElem?_eq_some_iff.1 hj).1
      rwa [List.length_zipIdx, List.length_map, List.length_range] at this
    obtain ⟨g1, g2⟩ := Share.cellsS_get b L n j hjn
    have hl := Share.cellsS_len b L n
    have hp : p = ((⟨(j : Int) + 1, rows j⟩ : S44), j) := by
      rw [List.getElem?_zipIdx, List.getElem?_map, List.getElem?_range hjn] at hj
      simpa using hj.symm
    subst hp
    have hc : ((Share.cellsS b L n).drop (j * 2)).take 2 = [.int .u8 ((j : Int) + 1), Share.sl b L j] := by
      rw [List.drop_eq_getElem_cons (by omega), List.drop_eq_getElem_cons (by omega)]
      rw [List.getElem?_eq_getElem (by omega)] at g1 g2
      injection g1 with g1
      injection g2 with g2
      rw [g1, g2]
      rfl
    show k44.M W base _ _ (((Share.cellsS b L n).drop (j * 2)).take 2)
    rw [hc]
    refine k44_mkM W base _ _ ((hY j hjn).R _ (fun k hk => ?_))
    have hk' : b j = k := by simpa [Share.sl, Value.ownBlock] using hk
    subst hk'
    exact ⟨⟨trivial, fun e => hS.apart (hY j hjn) (b j) e.symm rfl⟩, hf j hjn⟩
def splitR (bs ds : List Gf.B) (k n : Nat) : List S44 := (List.range n).map fun (q : Nat) => (⟨(q : Int) + 1, Share.yr bs ds k (Share.xB q) bs.length⟩ : S44)
def byteL (l : List Int) : Prop := ∀ x ∈ l, 0 ≤ x ∧ x < 256
instance (l : List Int) : Decidable (byteL l) := by unfold byteL; infer_instance
theorem byteL_ints {l : List Int} (h : byteL l) : Poly.ints (l.map Gfi.toB) = l := by
  unfold Poly.ints
  rw [List.map_map]
  have : l.map (Gfi.ofB ∘ Gfi.toB) = l.map id := List.map_congr_left (fun x hx => Gfi.ofB_toB (h x hx).1 (h x hx).2)
  rw [this, List.map_id]
def share_Split.f (l0 : List Int) (a1 : Int) (a2 : Int) (l3 : List Int) : Option (List S44 × Int) :=
  if l0.length ≤ 140737488355328 ∧ l3.length ≤ 140737488355328 ∧ byteL l0 ∧ byteL l3 then
    (if a2 < 1 ∨ a1 < a2 ∨ 16 < a1 then some ([], 2) else if 1024 < l0.length then some ([], 3) else if (l3.length : Int) ≠ (a2 - 1) * (l0.length : Int) then some ([], 41) else some (splitR (l0.map Gfi.toB) (l3.map Gfi.toB) a2.toNat a1.toNat, 0))
  else none
theorem share_Split.calls (A0 : Option Addr) (c0 : Nat) (l0 : List Int) (a1 : Int) (a2 : Int) (A3 : Option Addr) (c3 : Nat) (l3 : List Int) (r1 : List S44) (r2 : Int) (w : World) (hr0 : Kd.C (Kd.int .u8) w A0 l0.length l0) (hc0 : l0.length ≤ c0) (hr3 : Kd.C (Kd.int .u8) w A3 l3.length l3) (hc3 : l3.length ≤ c3) (h : share_Split.f l0 a1 a2 l3 = some (r1, r2)) :
    Calls Try.prog 10 #[.slice A0 l0.length c0, .int .i64 a1, .int .i64 a2, .slice A3 l3.length c3] w fun e w' => ∃ v0_ : Value, e = .returned (.tuple #[v0_, .int .i64 r2]) ∧ Kd.S k44 44 w' w.heap.size (fun _ => True) v0_ r1 ∧ Below w.heap.size w w' := by
  unfold share_Split.f at h
  split at h
  · rename_i hb
    obtain ⟨hm0, hm3, hb0, hb3⟩ := hb
    have bad : ∀ e0 : Int, some (([] : List S44), e0) = some (r1, r2) → ((e0 = 2 ∧ (a2 < 1 ∨ a1 < a2 ∨ 16 < a1)) ∨ (e0 = 3 ∧ ¬ (a2 < 1 ∨ a1 < a2 ∨ 16 < a1) ∧ 1024 < l0.length) ∨ (e0 = 41 ∧ ¬ (a2 < 1 ∨ a1 < a2 ∨ 16 < a1) ∧ l0.length ≤ 1024 ∧ (l3.length : Int) ≠ (a2 - 1) * (l0.length : Int))) →
        Calls Try.prog 10 #[.slice A0 l0.length c0, .int .i64 a1, .int .i64 a2, .slice A3 l3.length c3] w fun e w' => ∃ v0_ : Value, e = .returned (.tuple #[v0_, .int .i64 r2]) ∧ Kd.S k44 44 w' w.heap.size (fun _ => True) v0_ r1 ∧ Below w.heap.size w w' := by
      intro e0 he hc
      injection he with he
      injection he with e1 e2
      subst e1
      subst e2
      refine (Share.bad_calls A0 A3 l0.length l3.length c0 c3 a1 a2 e0 w hm0 hm3 hc).mono ?_
      rintro e w' ⟨rfl, rfl⟩
      exact ⟨_, rfl, ⟨fun _ => 0, Kd.R_nil _ _ _ _ _⟩, Below.refl _ _⟩
    split at h
    · rename_i h1
      exact bad 2 h (.inl ⟨rfl, h1⟩)
    · rename_i h1
      split at h
      · rename_i h2
        exact bad 3 h (.inr (.inl ⟨rfl, h1, h2⟩))
      · rename_i h2
        split at h
        · rename_i h3
          exact bad 41 h (.inr (.inr ⟨rfl, h1, by omega, h3⟩))
        · rename_i h3
          injection h with h
          injection h with e1 e2
          subst e1
          subst e2
          have h3' : (l3.length : Int) = (a2 - 1) * (l0.length : Int) := Decidable.not_not.1 h3
          have hi0 := byteL_ints hb0
          have hi3 := byteL_ints hb3
          have hl0 : (l0.map Gfi.toB).length = l0.length := List.length_map _
          have hl3 : (l3.map Gfi.toB).length = l3.length := List.length_map _
          have hk : ((a2.toNat : Nat) : Int) = a2 := by omega
          have hn : ((a1.toNat : Nat) : Int) = a1 := by omega
          have hD : (l3.map Gfi.toB).length = (a2.toNat - 1) * (l0.map Gfi.toB).length := by
            rw [hl0, hl3]
            have : ((a2.toNat - 1 : Nat) : Int) = a2 - 1 := by omega
            have h4 : (((a2.toNat - 1) * l0.length : Nat) : Int) = (l3.length : Int) := by rw [Int.natCast_mul, this, h3']
            omega
          have hsp := Share.split_calls (l0.map Gfi.toB) (l3.map Gfi.toB) A0 A3 c0 c3 a1.toNat a2.toNat w (by rw [hi0, hl0]; exact hr0) (by rw [hl0]; exact hc0) (by rw [hi3, hl3]; exact hr3) (by rw [hl3]; exact hc3) (by omega) (by omega) (by omega) (by rw [hl0]; omega) hD
          rw [hl0, hl3, hk, hn] at hsp
          refine hsp.mono ?_
          rintro e w' ⟨v, b, rfl, hS, hY, hO, hB⟩
          refine ⟨v, rfl, ?_, hB⟩
          unfold splitR
          rw [hl0]
          exact split_S hS hY hO
  · cases h

theorem readsS {w : World} {A : Option Addr} {l : List S44} (h : Kd.C k44 w A l.length l) (hx : ∀ s ∈ l, 0 ≤ s.f0 ∧ s.f0 < 256) : Share.ReadsS w A l.length (fun i => Gfi.toB (l.getD i z44).f0) (fun i => (l.getD i z44).f1) := by
  intro hn
  obtain ⟨ad, _, _, e0, _⟩ := at_T44 h 0 (by decide) (by omega)
  refine ⟨ad, e0, fun i hi => ?_⟩
  obtain ⟨ad', C, c, e1, h1, h2, h3, h4⟩ := at_T44 h (i : Int) (by omega) (by omega)
  rw [e0] at e1
  injection e1 with e1
  subst e1
  rw [Int.toNat_natCast] at h1 h2
  have er : rd_T44 l (i : Int) = l.getD i z44 := by unfold rd_T44; rw [Int.toNat_natCast]
  rw [er] at h1 h2 h3 h4
  have hm : l.getD i z44 ∈ l := by
    rw [List.getD_eq_getElem?_getD, List.getElem?_eq_getElem hi]
    exact List.getElem_mem hi
  have hr := hx _ hm
  exact ⟨by rw [Gfi.ofB_toB hr.1 hr.2]; exact h1, C, c, h2, h3, h4⟩


-- NOT PRINTED: function 50 (field_powers)

-- NOT PRINTED: function 46 (field_logs)

-- NOT PRINTED: function 39 (field_AtZero)

/-! ### share_Combine: function 24 -/
def share_Combine.f (l0 : List S44) : Option (List Int × Int) :=
  if l0.length ≤ 1000000000 ∧ (∀ s ∈ l0, (0 ≤ s.f0 ∧ s.f0 < 256) ∧ byteL s.f1 ∧ s.f1.length ≤ 140737488355328) then
    (if l0.length = 0 ∨ 16 < l0.length then some ([], 2) else if ¬ ∀ s ∈ l0, s.f1.length ≤ 1024 then some ([], 3) else
      some (Share.combL (fun i => Gfi.toB (l0.getD i z44).f0) (fun i => (l0.getD i z44).f1.map Gfi.toB) l0.length, Share.combE (fun i => Gfi.toB (l0.getD i z44).f0) (fun i => (l0.getD i z44).f1.map Gfi.toB) l0.length))
  else none
theorem share_Combine.calls (A0 : Option Addr) (c0 : Nat) (l0 : List S44) (r1 : List Int) (r2 : Int) (w : World) (hr0 : Kd.C k44 w A0 l0.length l0) (hc0 : l0.length ≤ c0) (h : share_Combine.f l0 = some (r1, r2)) :
    Calls Try.prog 24 #[.slice A0 l0.length c0] w fun e w' => ∃ v0_ : Value, e = .returned (.tuple #[v0_, .int .i64 r2]) ∧ Kd.R (Kd.int .u8) 5 w' w.heap.size (fun _ => True) v0_ r1 ∧ Below w.heap.size w w' := by
  unfold share_Combine.f at h
  split at h
  · rename_i hb
    have hrS := readsS hr0 (fun s hs => (hb.2 s hs).1)
    have hmem : ∀ i, i < l0.length → l0.getD i z44 ∈ l0 := fun i hi => by
      rw [List.getD_eq_getElem?_getD, List.getElem?_eq_getElem hi]
      exact List.getElem_mem hi
    have hrB : Share.ReadsS w A0 l0.length (fun i => Gfi.toB (l0.getD i z44).f0) (fun i => Poly.ints ((l0.getD i z44).f1.map Gfi.toB)) := by
      intro hn
      obtain ⟨ad, e, hc⟩ := hrS hn
      refine ⟨ad, e, fun i hi => ?_⟩
      have hi2 := byteL_ints (hb.2 _ (hmem i hi)).2.1
      simp only [hi2]
      exact hc i hi
    split at h
    · rename_i h1
      injection h with h
      injection h with e1 e2
      subst e1
      subst e2
      refine (Share.combine_few A0 c0 l0.length w h1 hb.1).mono ?_
      rintro e w' ⟨rfl, hB⟩
      exact ⟨_, rfl, Kd.R_nil _ _ _ _ _, hB⟩
    · rename_i h1
      split at h
      · rename_i h2
        injection h with h
        injection h with e1 e2
        subst e1
        subst e2
        refine (Share.combine_long A0 c0 l0.length _ _ w hrB (by omega) (by omega) (fun hq => h2 (fun s hs => ?_)) (fun q hq => ?_)).mono ?_
        · obtain ⟨i, hi, rfl⟩ := List.mem_iff_getElem.1 hs
          have := hq i hi
          rw [List.length_map, List.getD_eq_getElem?_getD, List.getElem?_eq_getElem hi] at this
          exact this
        · have := (hb.2 _ (hmem q hq)).2.2
          rw [List.length_map]
          omega
        rintro e w' ⟨rfl, hB⟩
        exact ⟨_, rfl, Kd.R_nil _ _ _ _ _, hB⟩
      · rename_i h2
        injection h with h
        injection h with e1 e2
        subst e1
        subst e2
        refine (Share.combine_calls A0 c0 l0.length _ _ w hrB (by omega) (by omega) (fun q hq => ?_)).mono ?_
        · rw [List.length_map]
          exact Decidable.not_not.1 h2 _ (hmem q hq)
        rintro e w' ⟨v, rfl, hI, hB⟩
        exact ⟨v, rfl, hI.R _ (fun _ _ => trivial), hB⟩
  · cases h


/-! ### octet_Hex: function 41 -/
def octet_Hex.f (l0 : List Int) : Option ByteArray := if l0.length ≤ 10000000000000 ∧ (∀ x ∈ l0, 0 ≤ x ∧ x < 256) then some (strOfNums (Hex.hexL l0)) else none
theorem octet_Hex.calls (A0 : Option Addr) (c0 : Nat) (l0 : List Int) (r : ByteArray) (w : World) (hr0 : Kd.C (Kd.int .u8) w A0 l0.length l0) (hc0 : l0.length ≤ c0) (h : octet_Hex.f l0 = some r) :
    Calls Try.prog 41 #[.slice A0 l0.length c0] w fun e w' => e = .returned (.string r) ∧ Below w.heap.size w w' := by
  unfold octet_Hex.f at h
  split at h
  · rename_i hb
    injection h with h
    subst h
    exact Hex.hex A0 c0 l0 w hr0 hb.1 hb.2
  · cases h


/-! ### share_Text: function 29 -/
def share_Text.f (a0_0 : Int) (l0_1 : List Int) : Option (ByteArray) := (octet_Hex.f (([a0_0] : List Int))).bind fun t105 => ((octet_Hex.f l0_1).bind fun t106 => (if t105.size + t106.size ≤ 9223372036854775807 then (some (t105 ++ t106)) else (none)))
def share_Text.T1 : Bool × List (List Nat × List Nat) := (true, [([], []), ([0], [0]), ([1], [1]), ([2], [2]), ([], []), ([4], [4]), ([5, 3], [5]), ([3, 6], [3, 6]), ([7, 6, 0, 1, 2, 3, 4, 5, 6, 7], [7])])
def share_Text.B1 : List Nat := [0, 1, 3, 7, 0, 16, 63, 127, 255]
theorem share_Text.tab1 : rtab .any (opsOf Try.f29 1) = share_Text.T1 := by kernel_rfl
theorem share_Text.bits1 : waitsOk share_Text.T1.2 share_Text.B1 = true := by kernel_rfl
set_option maxHeartbeats 8000000 in
set_option maxRecDepth 100000 in
theorem share_Text.calls (a0_0 : Int) (A0_1 : Option Addr) (c0_1 : Nat) (l0_1 : List Int) (r : ByteArray) (w : World) (hr0_1 : Kd.C (Kd.int .u8) w A0_1 l0_1.length l0_1) (hc0_1 : l0_1.length ≤ c0_1) (h : share_Text.f a0_0 l0_1 = some r) :
    Calls Try.prog 29 #[.agg #[.int .u8 a0_0, .slice A0_1 l0_1.length c0_1]] w fun e w' => e = .returned (.string r) ∧ Below w.heap.size w w' := by
  have hu44 := Try.underlying44
  have HR0_1 := Aside0.mk hr0_1
  have HC0_1 := Aside0.mk hc0_1
  clear hr0_1 hc0_1
  have HB := Aside0.mk (Below.refl w.heap.size w)
  have H : ((octet_Hex.f (([a0_0] : List Int))).bind fun t105 => ((octet_Hex.f l0_1).bind fun t106 => (if t105.size + t106.size ≤ 9223372036854775807 then (some (t105 ++ t106)) else (none)))) = some r := h
  clear h
  obtain ⟨y102, hy102⟩ : ∃ y_ : List Int, y_ = (([a0_0] : List Int)) := ⟨_, rfl⟩
  replace H : ((octet_Hex.f y102).bind fun t105 => ((octet_Hex.f l0_1).bind fun t106 => (if t105.size + t106.size ≤ 9223372036854775807 then (some (t105 ++ t106)) else (none)))) = some r := by first | (rw [hy102]; with_reducible exact H) | (have H2_ := (Option.bind_some _ _).symm.trans H; rw [hy102]; with_reducible exact H2_) | (have H2_ := (Option.bind_some _ _).symm.trans H; with_reducible exact H2_) | with_reducible exact H | (rw [hy102]; exact H) | exact H
  have Ny102 := Aside0.mk hy102
  clear hy102
  replace H := Option.bind_eq_some_iff.mp H
  obtain ⟨t105, A20, H⟩ := H
  replace H : ((octet_Hex.f l0_1).bind fun t106 => (if t105.size + t106.size ≤ 9223372036854775807 then (some (t105 ++ t106)) else (none))) = some r := H
  have A2 := Aside0.mk A20
  clear A20
  replace H := Option.bind_eq_some_iff.mp H
  obtain ⟨t106, A30, H⟩ := H
  replace H : (if t105.size + t106.size ≤ 9223372036854775807 then (some (t105 ++ t106)) else (none)) = some r := H
  have A3 := Aside0.mk A30
  clear A30
  by_cases c4 : t105.size + t106.size ≤ 9223372036854775807
  · rw [if_pos c4] at H
    have c4b0 := eq_true c4
    have c4b1 : decide (t105.size + t106.size ≤ 9223372036854775807) = true := decide_eq_true c4
    try have c4b2 : (9223372036854775807 < t105.size + t106.size) = False := eq_false (Nat.not_lt.2 c4)
    obtain rfl := Option.some.inj H
    go_enter Try.func29, Try.ntmps29
    try go_wp2_with (first | ((with_reducible refine gate_dst (N := 1) rfl ?_); refine box_event ?hg (N := 1) ?hd (cs := #[.int .u8 a0_0, .slice A0_1 l0_1.length c0_1]) (t := 44) ?hr ?_; (case hd => rfl); (case hg => rfl); (case hr => first | (go_simp; done) | (go_simp; rfl)); intro gb101 hg w5 hbox hb; have n0_ := Aside0.mk (below_step (by repeat (first | (with_reducible first | exact HB.out | apply below_alloc | apply pw_below_drewN | apply below_drew1) | exact HB.out)) hb); have n1_ := Aside0.mk (hbox); have n2_ := Aside0.mk ((by rw [hg]; exact (below_size (by repeat (first | (with_reducible first | exact HB.out | apply below_alloc | apply pw_below_drewN | apply below_drew1) | exact HB.out))) : w.heap.size ≤ gb101)); have n3_ := Aside0.mk ((by rw [hg]; exact (below_size (by repeat (first | (with_reducible first | exact HB.out | apply below_alloc | apply pw_below_drewN | apply below_drew1) | exact HB.out))) : w.heap.size ≤ gb101)); clear HB; have HB := n0_; have BK101 := n1_; have GW101 := n2_; have GE101 := n3_; clear n0_ n1_ n2_ n3_; clear hb hbox hg))
    have n0_ := Aside0.mk (blk_drew BK101.out)
    have n1_ := Aside0.mk (below_drew1 HB.out)
    clear BK101
    clear HB
    have BK101 := n0_
    have HB := n1_
    clear n0_ n1_
    refine start_ (n := 9) (S := fun w' => w'.cell? ⟨gb101, 0, none⟩ = some (.int .u8 a0_0) ∧ w'.cell? ⟨gb101, 1, none⟩ = some (.slice A0_1 l0_1.length c0_1)) (ds := []) #[false, false, false, false, false, false, false, false, false] (by kernel_rfl) rfl rfl ⟨(blk_cell BK101.out 0).trans rfl, (blk_cell BK101.out 1).trans rfl⟩ (fun hHeld => ?_); refine with_tabW share_Text.tab1 share_Text.bits1 (fun HT_ HW_ => ?_)
    generalize w5.drew = w6 at BK101 HB hHeld ⊢
    refine pure_ (i := 0) (N := some 3) (v := ?_) (a' := ?_) #[true, false, false, false, false, false, false, false, false] rfl rfl (any_of HT_.out (by kernel_rfl)) (fun _ _ _ h => h) (Or.inl ⟨by rfl, ?_⟩) ?_ ?_
    rotate_left
    · intro w'
      go_simp
      with_reducible rfl
    rotate_left
    · simp only [Act.put, List.setIfInBounds_toArray, List.set_cons_zero, List.set_cons_succ, i64_w, i32_w]
      rfl
    refine pure_ (i := 4) (N := some 7) (v := ?_) (a' := ?_) #[true, false, false, false, true, false, false, false, false] rfl rfl (any_of HT_.out (by kernel_rfl)) (fun _ _ _ h => h) (Or.inl ⟨by rfl, ?_⟩) ?_ ?_
    rotate_left
    · intro w'
      go_simp
      with_reducible rfl
    rotate_left
    · simp only [Act.put, List.setIfInBounds_toArray, List.set_cons_zero, List.set_cons_succ, i64_w, i32_w]
      rfl
    refine take_ (i := 1) (N := some 4) (v := ?_) (a' := ?_) #[true, true, false, false, true, false, false, false, false] rfl rfl (take_ofW HT_.out HW_.out (by kernel_rfl)) (fun _ _ _ h => h) (Or.inl ⟨by rfl, ?_⟩) hHeld ?_ ?_
    rotate_left
    · rintro w' ⟨s0, s1⟩
      go_simp
      with_reducible rfl
    rotate_left
    · simp only [Act.put, List.setIfInBounds_toArray, List.set_cons_zero, List.set_cons_succ, i64_w, i32_w]
      rfl
    refine take_ (i := 5) (N := some 8) (v := ?_) (a' := ?_) #[true, true, false, false, true, true, false, false, false] rfl rfl (take_ofW HT_.out HW_.out (by kernel_rfl)) (fun _ _ _ h => h) (Or.inl ⟨by rfl, ?_⟩) hHeld ?_ ?_
    rotate_left
    · rintro w' ⟨s0, s1⟩
      go_simp
      with_reducible rfl
    rotate_left
    · simp only [Act.put, List.setIfInBounds_toArray, List.set_cons_zero, List.set_cons_succ, i64_w, i32_w]
      rfl
    refine one_ (i := 2) (N := some 5) #[true, true, true, false, true, true, false, false, false] rfl rfl (one_of HT_.out (by kernel_rfl)) (by decide) (fun K hK => ?_)
    refine Kd.R_lit_step (Kd.int .u8) _ 5 ?hg (N := 5) ?hd (xs := ([a0_0] : List Int)) (inner := [.int .u8 a0_0]) (ok := fun _ => True) (okp := fun _ => True) ?hr ?hp (fun _ hk => hk) trivial (Below.refl _ _) (Nat.le_refl _) (by simp) ?_; (case hd => rfl); (case hg => rfl); (case hr => first | (go_simp; done) | (go_simp; rfl)); (case hp => exact (Reps.one (show Kd.M (Kd.int .u8) _ _ _ a0_0 [.int .u8 a0_0] from rfl) (Reps.none _ _)))
    intro v103 w7 ho8 hb hg_ hnew_
    clear hg_ hnew_
    (first | rw [← Ny102.out] at ho8 | (simp only [Int.reduceToNat] at ho8; rw [← Ny102.out] at ho8))
    have n0_ := Aside0.mk (Kd.R_lower ho8 (below_size (by repeat (first | (with_reducible first | exact HB.out | apply below_alloc | apply pw_below_drewN | apply below_drew1 | refine below_set ?_ GE101.out) | exact HB.out))))
    have n1_ := Aside0.mk (blk_below (g := gb101) (o := .cells #[.int .u8 a0_0, .slice A0_1 l0_1.length c0_1] 44 (0, 0)) (by (with_reducible repeat (first | refine blk_drewN ?_ _ | refine blk_drew ?_ | refine blk_alloc ?_ _)); exact BK101.out) hb)
    have n2_ := Aside0.mk (below_step (by repeat (first | (with_reducible first | exact HB.out | apply below_alloc | apply pw_below_drewN | apply below_drew1 | refine below_set ?_ GE101.out) | exact HB.out)) hb)
    clear BK101
    clear HB
    have HO104 := n0_
    have BK101 := n1_
    have HB := n2_
    clear n0_ n1_ n2_
    clear hb ho8
    obtain ⟨Ao9, co9, eo9⟩ := Kd.R_slice HO104.out
    (first | subst eo9 | (injection eo9 with f1_ f2_ f3_; have f4_ := f1_.symm; have f5_ := f3_.symm; clear f1_ f2_ f3_; subst f4_; subst f5_))
    refine hK.out _ _ ⟨(blk_cell BK101.out 0).trans rfl, (blk_cell BK101.out 1).trans rfl⟩ (fun hHeld => ?_)
    clear hK K
    refine norm_ (a' := ?_) ?_ ?_
    rotate_left
    · show Act.put _ (some 5) _ = _
      simp only [Act.put, List.setIfInBounds_toArray, List.set_cons_zero, List.set_cons_succ, i64_w, i32_w]
      rfl
    refine one_ (i := 3) (N := some 6) #[true, true, true, true, true, true, false, false, false] rfl rfl (one_of HT_.out (by kernel_rfl)) (by decide) (fun K hK => ?_)
    refine goes_ Try.func41 (by kernel_rfl) rfl #[.slice Ao9 y102.length co9] (by rfl) rfl rfl (by (try simp only [List.map_toArray, List.map_cons, List.map_nil]); first | done | rfl | (simp only [List.length_drop, List.length_take]; rfl)) ?_
    with_reducible refine (octet_Hex.calls _ _ y102 t105 _ ?side1 ?side2 A2.out).mono ?_
    (case side1 => repeat (first | exact (Kd.R_reads' HO104.out).2.2 | (with_reducible refine Kd.C_alloc ?_ _) | (with_reducible refine Kd.C_drewN ?_ _) | (with_reducible refine Kd.C_drew ?_)))
    (case side2 => exact (Kd.R_reads' HO104.out).2.1)
    rintro e w10 ⟨rfl, hb⟩
    refine ⟨_, rfl, ?_⟩
    have n0_ := Aside0.mk (Kd.R_below (by (with_reducible repeat (first | apply Kd.R_alloc | apply Kd.R_drewN | apply Kd.R_drew)); exact HO104.out) hb)
    have n1_ := Aside0.mk (blk_below (g := gb101) (o := .cells #[.int .u8 a0_0, .slice A0_1 l0_1.length c0_1] 44 (0, 0)) (by (with_reducible repeat (first | refine blk_drewN ?_ _ | refine blk_drew ?_ | refine blk_alloc ?_ _)); exact BK101.out) hb)
    have n2_ := Aside0.mk (below_step (by repeat (first | (with_reducible first | exact HB.out | apply below_alloc | apply pw_below_drewN | apply below_drew1 | refine below_set ?_ GE101.out) | exact HB.out)) hb)
    clear HO104
    clear BK101
    clear HB
    have HO104 := n0_
    have BK101 := n1_
    have HB := n2_
    clear n0_ n1_ n2_
    (try clear hb)
    (try clear hb2)
    (try clear hk)
    (try clear hi)
    refine hK.out _ _ ⟨(blk_cell BK101.out 0).trans rfl, (blk_cell BK101.out 1).trans rfl⟩ (fun hHeld => ?_)
    clear hK K
    refine norm_ (a' := ?_) ?_ ?_
    rotate_left
    · show Act.put _ (some 6) _ = _
      simp only [Act.put, List.setIfInBounds_toArray, List.set_cons_zero, List.set_cons_succ, i64_w, i32_w]
      rfl
    refine one_ (i := 6) (N := some 9) #[true, true, true, true, true, true, true, false, false] rfl rfl (one_of HT_.out (by kernel_rfl)) (by decide) (fun K hK => ?_)
    refine goes_ Try.func41 (by kernel_rfl) rfl #[.slice A0_1 l0_1.length c0_1] (by rfl) rfl rfl (by (try simp only [List.map_toArray, List.map_cons, List.map_nil]); first | done | rfl | (simp only [List.length_drop, List.length_take]; rfl)) ?_
    with_reducible refine (octet_Hex.calls _ _ l0_1 t106 _ ?side1 ?side2 A3.out).mono ?_
    (case side1 => repeat (first | exact (Kd.C_below HR0_1.out HB.out) | (with_reducible refine Kd.C_alloc ?_ _) | (with_reducible refine Kd.C_drewN ?_ _) | (with_reducible refine Kd.C_drew ?_)))
    (case side2 => exact HC0_1.out)
    rintro e w11 ⟨rfl, hb⟩
    refine ⟨_, rfl, ?_⟩
    have n0_ := Aside0.mk (Kd.R_below (by (with_reducible repeat (first | apply Kd.R_alloc | apply Kd.R_drewN | apply Kd.R_drew)); exact HO104.out) hb)
    have n1_ := Aside0.mk (blk_below (g := gb101) (o := .cells #[.int .u8 a0_0, .slice A0_1 l0_1.length c0_1] 44 (0, 0)) (by (with_reducible repeat (first | refine blk_drewN ?_ _ | refine blk_drew ?_ | refine blk_alloc ?_ _)); exact BK101.out) hb)
    have n2_ := Aside0.mk (below_step (by repeat (first | (with_reducible first | exact HB.out | apply below_alloc | apply pw_below_drewN | apply below_drew1 | refine below_set ?_ GE101.out) | exact HB.out)) hb)
    clear HO104
    clear BK101
    clear HB
    have HO104 := n0_
    have BK101 := n1_
    have HB := n2_
    clear n0_ n1_ n2_
    (try clear hb)
    (try clear hb2)
    (try clear hk)
    (try clear hi)
    refine hK.out _ _ ⟨(blk_cell BK101.out 0).trans rfl, (blk_cell BK101.out 1).trans rfl⟩ (fun hHeld => ?_)
    clear hK K
    refine norm_ (a' := ?_) ?_ ?_
    rotate_left
    · show Act.put _ (some 9) _ = _
      simp only [Act.put, List.setIfInBounds_toArray, List.set_cons_zero, List.set_cons_succ, i64_w, i32_w]
      rfl
    refine pure_ (i := 7) (N := some 10) (v := ?_) (a' := ?_) #[true, true, true, true, true, true, true, true, false] rfl rfl (any_of HT_.out (by kernel_rfl)) (fun _ _ _ h => h) (Or.inl ⟨by rfl, ?_⟩) ?_ ?_
    rotate_left
    · intro w'
      go_simp
      with_reducible rfl
    rotate_left
    · simp only [Act.put, List.setIfInBounds_toArray, List.set_cons_zero, List.set_cons_succ, i64_w, i32_w]
      rfl
    refine pure_ (i := 8) (N := some 2) (v := ?_) (a' := ?_) #[true, true, true, true, true, true, true, true, true] rfl rfl (any_of HT_.out (by kernel_rfl)) (fun _ _ _ h => h) (Or.inl ⟨by rfl, ?_⟩) ?_ ?_
    rotate_left
    · intro w'
      go_simp
      with_reducible rfl
    rotate_left
    · simp only [Act.put, List.setIfInBounds_toArray, List.set_cons_zero, List.set_cons_succ, i64_w, i32_w]
      rfl
    refine done_ (done_of HT_.out (by kernel_rfl)) ?_
    try go_wp2
    go_ret
    exact ⟨by first | rfl | (simp [errW_none, errW_some] <;> rfl) | (simp [*, errW_none, errW_some] <;> rfl), by repeat (first | (with_reducible first | exact HB.out | apply below_alloc | apply pw_below_drewN | apply below_drew1 | refine below_set ?_ GE101.out) | exact HB.out)⟩
  · rw [if_neg c4] at H
    exact absurd H (by simp)

end Go.Proofs.Ytglnepokollijaa.PT
