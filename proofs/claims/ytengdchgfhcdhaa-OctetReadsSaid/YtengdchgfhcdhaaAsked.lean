/- What is said here: the law's 'asked': both readers answer a question alike. -/
import Derived.Test.YtengdchgfhcdhaaRReader3
import Derived.Test.YtengdchgfhcdhaaHex
import Derived.Test.YtengdchgfhcdhaaPAx1
namespace Go.Proofs.Ytengdchgfhcdhaa.Asked
set_option linter.unusedVariables false
set_option linter.unusedSimpArgs false
open Go.RowKit Go.Proofs.YtengdchgfhcdhaaW.PrintWords Go.Proofs.YtengdchgfhcdhaaW.PrintLast Go.Proofs.YtengdchgfhcdhaaW.PrintMore
open Reader (Only)

/-- A row of bytes does not stand in a block of another type. -/
theorem row_apart {W : World} {base b : Nat} {v : Value} {l : List Int} {cs : Array Value} {T : TypeId} (h : Row.Is W base v l) (hb : Blk.Is W b cs T) (hT : T ≠ 5) : v.ownBlock ≠ some b := by
  intro e
  rcases h.2 with ⟨e', _⟩ | ⟨g', c', cur', e', _, hg', _⟩
  · rw [e'] at e; cases e
  rw [e'] at e
  injection e with e
  subst e
  have h1 : W.heap[g']? = _ := hg'
  have h2 : W.heap[g']? = _ := hb
  rw [h1] at h2
  injection h2 with h2
  injection h2 with _ h2 _
  exact hT h2.symm
theorem blk_ne {W : World} {a b : Nat} {cs ds : Array Value} {T U : TypeId} (h : Blk.Is W a cs T) (h' : Blk.Is W b ds U) (hT : T ≠ U) : a ≠ b := by
  intro e
  subst e
  have h1 : W.heap[a]? = _ := h
  have h2 : W.heap[a]? = _ := h'
  rw [h1] at h2
  injection h2 with h2
  injection h2 with _ h2 _
  exact hT h2
theorem blk_only {W W' : World} {b g : Nat} {cs : Array Value} {T : TypeId} (h : Blk.Is W b cs T) (ho : Only g W W') (hne : b ≠ g) : Blk.Is W' b cs T := (ho.block b h.lt hne).trans h
section
variable {w w' : World} {g g' base base' : Nat} {A A' : Option Addr} {c c' : Nat} {s s' : Reader.St}
theorem _root_.Go.Proofs.Ytengdchgfhcdhaa.RReader.Is.only (h : RReader.Is w base' g' A' c' s') (hR : Reader.Is w base g A c s) (ho : Only g w w') : RReader.Is w' base' g' A' c' s' := by
  have hx := h.ex
  have hr := hR.ex.1
  have n1 := blk_ne hx.1 hr (by decide)
  have n2 := row_apart hx.2.1 hr (by decide)
  refine h.move (fun k hk => ?_)
  rcases hk with rfl | hk
  · exact ho.block _ h.lt n1
  · exact ho.block _ (h.lt' k hk).2 (fun e => n2 (by rw [hk, e]))
theorem _root_.Go.Proofs.Ytengdchgfhcdhaa.Reader.Is.only (h : Reader.Is w base g A c s) (hV : RReader.Is w base' g' A' c' s') (ho : Only g' w w') : Reader.Is w' base g A c s := by
  have hx := h.ex
  have hr := hV.ex.1
  have n1 := blk_ne hx.1 hr (by decide)
  have n2 := row_apart hx.2.1 hr (by decide)
  refine h.move (fun k hk => ?_)
  rcases hk with rfl | hk
  · exact ho.block _ h.lt n1
  · exact ho.block _ (h.lt' k hk).2 (fun e => n2 (by rw [hk, e]))
end
/-- Two blocks have been written, no more. -/
structure Two (g g' : Nat) (w w' : World) : Prop where
  os : w'.os = w.os
  tape : w'.tape = w.tape
  output : w'.output = w.output
  size : w.heap.size ≤ w'.heap.size
  block : ∀ k, k < w.heap.size → k ≠ g → k ≠ g' → w'.heap[k]? = w.heap[k]?
theorem Two.refl (g g' : Nat) (w : World) : Two g g' w w := ⟨rfl, rfl, rfl, Nat.le_refl _, fun _ _ _ _ => rfl⟩
theorem Two.trans {g g' : Nat} {a b c : World} (h : Two g g' a b) (k : Two g g' b c) : Two g g' a c :=
  ⟨k.os.trans h.os, k.tape.trans h.tape, k.output.trans h.output, Nat.le_trans h.size k.size, fun i hi h1 h2 => (k.block i (Nat.lt_of_lt_of_le hi h.size) h1 h2).trans (h.block i hi h1 h2)⟩
theorem Two.left {g g' : Nat} {a b c : World} (h : Two g g' a b) (k : Only g b c) : Two g g' a c := h.trans ⟨k.os, k.tape, k.output, k.size, fun i hi h1 _ => k.block i hi h1⟩
theorem Two.right {g g' : Nat} {a b c : World} (h : Two g g' a b) (k : Only g' b c) : Two g g' a c := h.trans ⟨k.os, k.tape, k.output, k.size, fun i hi _ h2 => k.block i hi h2⟩
theorem Two.below {g g' : Nat} {a b c : World} (h : Two g g' a b) (k : Below b.heap.size b c) : Two g g' a c := h.trans ⟨k.os, k.tape, k.output, k.size, fun i hi _ _ => k.block i hi⟩
theorem Two.drewN {g g' : Nat} {a b : World} (h : Two g g' a b) (n : Nat) : Two g g' a (b.drewN n) := ⟨h.os, h.tape, h.output, h.size, h.block⟩

/-- What lies below a bound stands while all that is written lies above it. -/
def Low (B g : Nat) (v : Value) : Prop := g < B ∧ ∀ k, v.ownBlock = some k → k < B
theorem stand {W W' : World} {B base g : Nat} {A : Option Addr} {c : Nat} {s : Reader.St} (h : Reader.Is W base g A c s) (hl : Low B g (.slice A s.bs.length c)) (hb : Below B W W') : Reader.Is W' base g A c s :=
  h.move (fun k hk => hb.block k (by rcases hk with rfl | hk; exact hl.1; exact hl.2 k hk))
theorem standR {W W' : World} {B base g : Nat} {A : Option Addr} {c : Nat} {s : Reader.St} (h : RReader.Is W base g A c s) (hl : Low B g (.slice A s.bs.length c)) (hb : Below B W W') : RReader.Is W' base g A c s :=
  h.move (fun k hk => hb.block k (by rcases hk with rfl | hk; exact hl.1; exact hl.2 k hk))
theorem Two.above {g g' : Nat} {a b c : World} (h : Two g g' a b) (k : Below a.heap.size b c) : Two g g' a c :=
  ⟨k.os.trans h.os, k.tape.trans h.tape, k.output.trans h.output, Nat.le_trans h.size k.size, fun i hi h1 h2 => (k.block i hi).trans (h.block i hi h1 h2)⟩
theorem setBelow {B : Nat} (W : World) (q i : Nat) (v : Value) (h : B ≤ q) : Below B W (W.setCell ⟨q, i, none⟩ v) := ⟨rfl, rfl, rfl, by simp [World.setCell], fun k hk => Below.heap_setCell _ _ _ _ (by show k ≠ q; omega)⟩

/-- What is left behind a question. -/
def askS (s : Reader.St) (k n : Int) : Reader.St := if k = 1 then s.takeS 1 else if k = 2 then s.takeS 2 else if k = 4 then s.takeS 4 else if k = 8 then s.takeS 8 else if k = 3 then s.takeS n else if k = 5 then s.textS else s
/-- A reader whose bytes are bytes. -/
def Fine (s : Reader.St) : Prop := s.bs.length ≤ 131072 ∧ ∀ x ∈ s.bs, 0 ≤ x ∧ x < 256
theorem takeL_fine (s : Reader.St) (h : Fine s) (n : Int) (m : Nat) (hn : n = m) : (∀ x ∈ s.takeL n, 0 ≤ x ∧ x < 256) ∧ (s.takeL n).length ≤ m := by
  refine ⟨fun x hx => h.2 x (RReader.takeL_mem s n x hx), ?_⟩
  unfold Reader.St.takeL
  split
  · simp
  · split
    · simp
    · split
      · simp
      · rw [List.length_take]; omega
theorem pow256 {a b : Nat} (h : a ≤ b) : (256 : Int) ^ a ≤ 256 ^ b := by
  have e : ∀ k : Nat, (256 : Int) ^ k = ((256 ^ k : Nat) : Int) := fun k => by
    induction k with
    | zero => rfl
    | succ k ih => rw [Int.pow_succ, ih, Nat.pow_succ, Int.natCast_mul]; rfl
  rw [e, e]
  exact Int.ofNat_le.2 (Nat.pow_le_pow_right (by decide) h)
theorem num_of (s : Reader.St) (h : Fine s) (n : Int) (m : Nat) (hn : n = m) (h8 : m ≤ 8) (P : Int) (hP : (256 : Int) ^ m ≤ P) : Reader.num (s.takeL n) % P = RReader.num (s.takeL n) ∧ 0 ≤ RReader.num (s.takeL n) ∧ RReader.num (s.takeL n) < P := by
  obtain ⟨h1, h2⟩ := takeL_fine s h n m hn
  obtain ⟨e1, e2, e3⟩ := RReader.num_eq' _ h1 (by omega)
  have hp : (256 : Int) ^ (s.takeL n).length ≤ 256 ^ m := pow256 h2
  have h5 := Int.lt_of_lt_of_le e3 (Int.le_trans hp hP)
  rw [e1]
  exact ⟨Int.emod_eq_of_lt e2 h5, e2, h5⟩

theorem num64 (s : Reader.St) (h : Fine s) : RReader.num (s.takeL 8) = Reader.num (s.takeL 8) := by
  obtain ⟨h1, h2⟩ := takeL_fine s h 8 8 rfl
  exact (RReader.num_eq' _ h1 (by omega)).1

set_option maxRecDepth 100000 in
set_option maxHeartbeats 4000000 in
theorem asked_calls (g base g' base' : Nat) (A A' : Option Addr) (c c' : Nat) (s : Reader.St) (k n : Int) (w : World) (h : Reader.Is w base g A c s) (h' : RReader.Is w base' g' A' c' s) (hf : Fine s) (hn : -9223372036854775808 ≤ n) (hn2 : n ≤ 9223372036854775807) :
    Calls Try.prog 24 #[.pointer (some ⟨g, 0, none⟩), .pointer (some ⟨g', 0, none⟩), .agg #[.int .i64 k, .int .i64 n]] w fun e w' => e = .returned (.bool true) ∧ Reader.Is w' base g A c (askS s k n) ∧ RReader.Is w' base' g' A' c' (askS s k n) ∧ Two g g' w w' := by
  have HX := Lib.hid (Blk.Is.new w #[.int .i64 k, .int .i64 n] 46)
  have H1 := Lib.hid (h.below ((Below.refl w.heap.size w).alloc (Nat.le_refl _) (.cells #[.int .i64 k, .int .i64 n] 46)))
  have V1 := Lib.hid (h'.below ((Below.refl w.heap.size w).alloc (Nat.le_refl _) (.cells #[.int .i64 k, .int .i64 n] 46)))
  have T1 := Lib.hid ((Two.refl g g' w).below ((Below.refl w.heap.size w).alloc (Nat.le_refl _) (.cells #[.int .i64 k, .int .i64 n] 46)))
  have LH := Lib.hid (show Low w.heap.size g (.slice A s.bs.length c) from ⟨h.lt, fun k hk => (h.lt' k hk).2⟩)
  have LV := Lib.hid (show Low w.heap.size g' (.slice A' s.bs.length c') from ⟨h'.lt, fun k hk => (h'.lt' k hk).2⟩)
  have HF := Lib.hid hf
  have hl : s.bs.length ≤ 131072 := hf.1
  clear h h' hf
  by_cases k1 : k = 1
  · subst k1
    obtain ⟨e1, e2, e3⟩ := num_of s HF.out 1 1 rfl (by decide) 256 (by decide)
    have hask : askS s 1 n = s.takeS 1 := by unfold askS; simp
    have HU := Lib.hid (Reader.U8_calls g base A c s _ H1.out)
    have HN := Lib.hid (fun W (hW : RReader.Is W base' g' A' c' s) => RReader.Num_calls g' base' A' c' s 1 W hW (by decide) (by decide) (by omega) HF.out.2)
    have HASK := Lib.hid hask
    rw [e1] at HU
    have hz : IntKind.u64.wrap (RReader.num (s.takeL 1)) = RReader.num (s.takeL 1) := by rw [IntKind.wrap_u64]; exact Int.emod_eq_of_lt e2 (Int.lt_of_lt_of_le e3 (by decide))
    clear e1 e2 e3 hask
    generalize RReader.num (s.takeL 1) = v at *
    generalize s.takeS 1 = s2 at *
    go_enter Try.func24, Try.ntmps24
    go_wp2_with fail
    refine HU.out.mono ?_
    rintro e w2 ⟨rfl, hI, hO⟩
    have V2 := Lib.hid (V1.out.only H1.out hO)
    have HN2 := Lib.hid (HN.out w2 V2.out)
    have T2 := Lib.hid (T1.out.left hO)
    have H2 := Lib.hid hI
    clear hI hO HU HN H1 V1 T1
    go_wp2_with fail
    refine HN2.out.mono ?_
    rintro e w3 ⟨rfl, hI, hO⟩
    have H3 := Lib.hid (H2.out.only V2.out hO)
    have T3 := Lib.hid (T2.out.right hO)
    have V3 := Lib.hid hI
    clear hI hO HN2 H2 T2 V2
    go_wp2_with fail
    refine (Reader.Left_calls g base A c _ _ H3.out).mono ?_
    rintro e w4 ⟨rfl, n4, rfl⟩
    have H4 := Lib.hid (H3.out.drewN n4)
    have V4 := Lib.hid (V3.out.drewN n4)
    have T4 := Lib.hid (T3.out.drewN n4)
    clear H3 V3 T3
    generalize w3.drewN n4 = w4 at *
    go_wp2_with fail
    refine (RReader.Left_calls g' base' A' c' _ _ V4.out).mono ?_
    rintro e w5 ⟨rfl, n5, rfl⟩
    have H5 := Lib.hid (H4.out.drewN n5)
    have V5 := Lib.hid (V4.out.drewN n5)
    have T5 := Lib.hid (T4.out.drewN n5)
    clear H4 V4 T4
    generalize w4.drewN n5 = w5 at *
    go_wp2_with fail
    refine (Reader.Err_calls g base A c _ _ H5.out).mono ?_
    rintro e w6 ⟨rfl, rfl⟩
    go_wp2_with fail
    refine (RReader.Err_calls g' base' A' c' _ _ V5.out).mono ?_
    rintro e w7 ⟨rfl, rfl⟩
    go_wp2
    go_ret
    exact ⟨rfl, by rw [HASK.out]; exact H5.out, by rw [HASK.out]; exact V5.out, T5.out⟩
  by_cases k2 : k = 2
  · subst k2
    obtain ⟨e1, e2, e3⟩ := num_of s HF.out 2 2 rfl (by decide) 65536 (by decide)
    have hask : askS s 2 n = s.takeS 2 := by unfold askS; simp
    have HU := Lib.hid (Reader.U16_calls g base A c s _ H1.out)
    have HN := Lib.hid (fun W (hW : RReader.Is W base' g' A' c' s) => RReader.Num_calls g' base' A' c' s 2 W hW (by decide) (by decide) (by omega) HF.out.2)
    have HASK := Lib.hid hask
    rw [e1] at HU
    have hz : IntKind.u64.wrap (RReader.num (s.takeL 2)) = RReader.num (s.takeL 2) := by rw [IntKind.wrap_u64]; exact Int.emod_eq_of_lt e2 (Int.lt_of_lt_of_le e3 (by decide))
    clear e1 e2 e3 hask
    generalize RReader.num (s.takeL 2) = v at *
    generalize s.takeS 2 = s2 at *
    go_enter Try.func24, Try.ntmps24
    go_wp2_with fail
    refine HU.out.mono ?_
    rintro e w2 ⟨rfl, hI, hO⟩
    have V2 := Lib.hid (V1.out.only H1.out hO)
    have HN2 := Lib.hid (HN.out w2 V2.out)
    have T2 := Lib.hid (T1.out.left hO)
    have H2 := Lib.hid hI
    clear hI hO HU HN H1 V1 T1
    go_wp2_with fail
    refine HN2.out.mono ?_
    rintro e w3 ⟨rfl, hI, hO⟩
    have H3 := Lib.hid (H2.out.only V2.out hO)
    have T3 := Lib.hid (T2.out.right hO)
    have V3 := Lib.hid hI
    clear hI hO HN2 H2 T2 V2
    go_wp2_with fail
    refine (Reader.Left_calls g base A c _ _ H3.out).mono ?_
    rintro e w4 ⟨rfl, n4, rfl⟩
    have H4 := Lib.hid (H3.out.drewN n4)
    have V4 := Lib.hid (V3.out.drewN n4)
    have T4 := Lib.hid (T3.out.drewN n4)
    clear H3 V3 T3
    generalize w3.drewN n4 = w4 at *
    go_wp2_with fail
    refine (RReader.Left_calls g' base' A' c' _ _ V4.out).mono ?_
    rintro e w5 ⟨rfl, n5, rfl⟩
    have H5 := Lib.hid (H4.out.drewN n5)
    have V5 := Lib.hid (V4.out.drewN n5)
    have T5 := Lib.hid (T4.out.drewN n5)
    clear H4 V4 T4
    generalize w4.drewN n5 = w5 at *
    go_wp2_with fail
    refine (Reader.Err_calls g base A c _ _ H5.out).mono ?_
    rintro e w6 ⟨rfl, rfl⟩
    go_wp2_with fail
    refine (RReader.Err_calls g' base' A' c' _ _ V5.out).mono ?_
    rintro e w7 ⟨rfl, rfl⟩
    go_wp2
    go_ret
    exact ⟨rfl, by rw [HASK.out]; exact H5.out, by rw [HASK.out]; exact V5.out, T5.out⟩
  by_cases k4 : k = 4
  · subst k4
    obtain ⟨e1, e2, e3⟩ := num_of s HF.out 4 4 rfl (by decide) 4294967296 (by decide)
    have hask : askS s 4 n = s.takeS 4 := by unfold askS; simp
    have HU := Lib.hid (Reader.U32_calls g base A c s _ H1.out)
    have HN := Lib.hid (fun W (hW : RReader.Is W base' g' A' c' s) => RReader.Num_calls g' base' A' c' s 4 W hW (by decide) (by decide) (by omega) HF.out.2)
    have HASK := Lib.hid hask
    rw [e1] at HU
    have hz : IntKind.u64.wrap (RReader.num (s.takeL 4)) = RReader.num (s.takeL 4) := by rw [IntKind.wrap_u64]; exact Int.emod_eq_of_lt e2 (Int.lt_of_lt_of_le e3 (by decide))
    clear e1 e2 e3 hask
    generalize RReader.num (s.takeL 4) = v at *
    generalize s.takeS 4 = s2 at *
    go_enter Try.func24, Try.ntmps24
    go_wp2_with fail
    refine HU.out.mono ?_
    rintro e w2 ⟨rfl, hI, hO⟩
    have V2 := Lib.hid (V1.out.only H1.out hO)
    have HN2 := Lib.hid (HN.out w2 V2.out)
    have T2 := Lib.hid (T1.out.left hO)
    have H2 := Lib.hid hI
    clear hI hO HU HN H1 V1 T1
    go_wp2_with fail
    refine HN2.out.mono ?_
    rintro e w3 ⟨rfl, hI, hO⟩
    have H3 := Lib.hid (H2.out.only V2.out hO)
    have T3 := Lib.hid (T2.out.right hO)
    have V3 := Lib.hid hI
    clear hI hO HN2 H2 T2 V2
    go_wp2_with fail
    refine (Reader.Left_calls g base A c _ _ H3.out).mono ?_
    rintro e w4 ⟨rfl, n4, rfl⟩
    have H4 := Lib.hid (H3.out.drewN n4)
    have V4 := Lib.hid (V3.out.drewN n4)
    have T4 := Lib.hid (T3.out.drewN n4)
    clear H3 V3 T3
    generalize w3.drewN n4 = w4 at *
    go_wp2_with fail
    refine (RReader.Left_calls g' base' A' c' _ _ V4.out).mono ?_
    rintro e w5 ⟨rfl, n5, rfl⟩
    have H5 := Lib.hid (H4.out.drewN n5)
    have V5 := Lib.hid (V4.out.drewN n5)
    have T5 := Lib.hid (T4.out.drewN n5)
    clear H4 V4 T4
    generalize w4.drewN n5 = w5 at *
    go_wp2_with fail
    refine (Reader.Err_calls g base A c _ _ H5.out).mono ?_
    rintro e w6 ⟨rfl, rfl⟩
    go_wp2_with fail
    refine (RReader.Err_calls g' base' A' c' _ _ V5.out).mono ?_
    rintro e w7 ⟨rfl, rfl⟩
    go_wp2
    go_ret
    exact ⟨rfl, by rw [HASK.out]; exact H5.out, by rw [HASK.out]; exact V5.out, T5.out⟩
  by_cases k8 : k = 8
  · subst k8
    obtain ⟨e1, e2, e3⟩ := num_of s HF.out 8 8 rfl (by decide) 18446744073709551616 (by decide)
    have hask : askS s 8 n = s.takeS 8 := by unfold askS; simp
    have HU := Lib.hid (Reader.U64_calls g base A c s _ H1.out)
    have HN := Lib.hid (fun W (hW : RReader.Is W base' g' A' c' s) => RReader.Num_calls g' base' A' c' s 8 W hW (by decide) (by decide) (by omega) HF.out.2)
    have HASK := Lib.hid hask
    rw [← num64 s HF.out] at HU
    have hz : IntKind.u64.wrap (RReader.num (s.takeL 8)) = RReader.num (s.takeL 8) := by rw [IntKind.wrap_u64]; exact Int.emod_eq_of_lt e2 (Int.lt_of_lt_of_le e3 (by decide))
    clear e1 e2 e3 hask
    generalize RReader.num (s.takeL 8) = v at *
    generalize s.takeS 8 = s2 at *
    go_enter Try.func24, Try.ntmps24
    go_wp2_with fail
    refine HU.out.mono ?_
    rintro e w2 ⟨rfl, hI, hO⟩
    have V2 := Lib.hid (V1.out.only H1.out hO)
    have HN2 := Lib.hid (HN.out w2 V2.out)
    have T2 := Lib.hid (T1.out.left hO)
    have H2 := Lib.hid hI
    clear hI hO HU HN H1 V1 T1
    go_wp2_with fail
    refine HN2.out.mono ?_
    rintro e w3 ⟨rfl, hI, hO⟩
    have H3 := Lib.hid (H2.out.only V2.out hO)
    have T3 := Lib.hid (T2.out.right hO)
    have V3 := Lib.hid hI
    clear hI hO HN2 H2 T2 V2
    go_wp2_with fail
    refine (Reader.Left_calls g base A c _ _ H3.out).mono ?_
    rintro e w4 ⟨rfl, n4, rfl⟩
    have H4 := Lib.hid (H3.out.drewN n4)
    have V4 := Lib.hid (V3.out.drewN n4)
    have T4 := Lib.hid (T3.out.drewN n4)
    clear H3 V3 T3
    generalize w3.drewN n4 = w4 at *
    go_wp2_with fail
    refine (RReader.Left_calls g' base' A' c' _ _ V4.out).mono ?_
    rintro e w5 ⟨rfl, n5, rfl⟩
    have H5 := Lib.hid (H4.out.drewN n5)
    have V5 := Lib.hid (V4.out.drewN n5)
    have T5 := Lib.hid (T4.out.drewN n5)
    clear H4 V4 T4
    generalize w4.drewN n5 = w5 at *
    go_wp2_with fail
    refine (Reader.Err_calls g base A c _ _ H5.out).mono ?_
    rintro e w6 ⟨rfl, rfl⟩
    go_wp2_with fail
    refine (RReader.Err_calls g' base' A' c' _ _ V5.out).mono ?_
    rintro e w7 ⟨rfl, rfl⟩
    go_wp2
    go_ret
    exact ⟨rfl, by rw [HASK.out]; exact H5.out, by rw [HASK.out]; exact V5.out, T5.out⟩
  by_cases k3 : k = 3
  · subst k3
    have hask : askS s 3 n = s.takeS n := by unfold askS; simp
    have HU := Lib.hid (Reader.Raw_calls g base A c s n _ H1.out hn hn2 (by omega))
    have HN := Lib.hid (fun W (hW : RReader.Is W base' g' A' c' s) => RReader.Raw_calls g' base' A' c' s n W hW hn hn2 (by omega))
    have HASK := Lib.hid hask
    have hL : (s.takeL n).length ≤ 131072 := Nat.le_trans (Reader.takeL_len s n) hl
    have HLR := Lib.hid (fun x hx => HF.out.2 x (RReader.takeL_mem s n x hx))
    clear hask
    have hbs : (s.takeS n).bs = s.bs := Reader.takeS_bs s n
    rw [← hbs] at LH LV
    clear hbs
    generalize s.takeL n = l at *
    generalize s.takeS n = s2 at *
    have x1 := HX.out.cell 1
    change World.cell? _ _ = some (.int .i64 n) at x1
    have hX0 : w.heap.size < (w.alloc (.cells #[.int .i64 3, .int .i64 n] 46)).heap.size := HX.out.lt
    go_enter Try.func24, Try.ntmps24
    go_wp2_with fail
    refine HU.out.mono ?_
    rintro e w2 ⟨v2, rfl, hR, hI, hO⟩
    have HX2 := Lib.hid (blk_only HX.out hO (blk_ne HX.out H1.out.ex.1 (by decide)))
    have V2 := Lib.hid (V1.out.only H1.out hO)
    have HN2 := Lib.hid (HN.out w2 V2.out)
    have T2 := Lib.hid (T1.out.left hO)
    have H2 := Lib.hid hI
    have HS2 : Hid (w.heap.size ≤ w2.heap.size) := T2.out.size
    obtain ⟨A2, c2, rfl, hc2, hC2⟩ := hR.reads
    have R2 := Lib.hid (hR.lower (Nat.le_of_lt hX0))
    have HR2 : Hid (w.heap.size ≤ w2.heap.size) := HS2
    clear hI hO HU HN H1 V1 T1 hR hC2 x1 HX
    have x1 := HX2.out.cell 1
    change World.cell? _ _ = some (.int .i64 n) at x1
    go_wp2_with fail
    refine HN2.out.mono ?_
    rintro e w3 ⟨v3, rfl, hR, hI, hO⟩
    obtain ⟨A3, c3, rfl, hc3, hC3⟩ := hR.reads
    have H3 := Lib.hid (H2.out.only V2.out hO)
    have T3 := Lib.hid (T2.out.right hO)
    have V3 := Lib.hid hI
    have R3 : Hid (Row.Is w3 w.heap.size (.slice A2 l.length c2) l) := R2.out.move (fun q hq => hO.block q (R2.out.lt q hq).2 (fun e => row_apart R2.out V2.out.ex.1 (by decide) (by rw [hq, e])))
    have C3 := Lib.hid hC3
    have C2 := Lib.hid R3.out.reads'.2.2
    clear hI hO HN2 H2 T2 V2 R2 hR hC3 x1 HX2
    go_wp2_with fail
    refine (PA.ciboriumref00_EqBytes.calls A2 c2 l A3 c3 l true _ C2.out hc2 C3.out hc3 (by unfold PA.ciboriumref00_EqBytes.f; simp)).mono ?_
    rintro e w4 ⟨rfl, n4, rfl⟩
    have H4 := Lib.hid (H3.out.drewN n4)
    have V4 := Lib.hid (V3.out.drewN n4)
    have T4 := Lib.hid (T3.out.drewN n4)
    have R4 := Lib.hid (R3.out.drewN n4)
    clear H3 V3 T3 R3 C2 C3
    generalize w3.drewN n4 = w4 at *
    go_wp2_with fail
    go_loopw [8] (fun v8 wr => ∃ i : Nat, ∃ m : List Int, i ≤ l.length ∧ v8 = .int .i64 (i : Int) ∧ m.length = l.length ∧ Hid (Row.Is wr w.heap.size (.slice A2 l.length c2) m) ∧ Hid (Reader.Is wr base g A c s2) ∧ Hid (RReader.Is wr base' g' A' c' s2) ∧ Hid (Two g g' w wr)) (fun v8 _ => 200000 - (intOf v8).toNat)
    case atStart => exact ⟨0, l, by omega, rfl, rfl, R4, H4, V4, T4⟩
    case round =>
      obtain ⟨i, m, hi, rfl, hm, R, H, V, T⟩ := hrel
      by_cases hlt : i < l.length
      · obtain ⟨gq, hA, hq⟩ := R.out.head (by omega)
        subst hA
        obtain ⟨hc, hfr⟩ := R.out.cell i (by omega)
        clear R4 H4 V4 T4
        generalize m.getD i 0 = x at *
        go_wp2
        go_roundw
        case rel => exact ⟨i + 1, _, by omega, by go_num, by simpa using hm, R.out.store i _, stand H.out LH.out (setBelow _ _ _ _ hq), standR V.out LV.out (setBelow _ _ _ _ hq), T.out.above (setBelow _ _ _ _ hq)⟩
        case measure => simp [intOf]; omega
      · obtain rfl : i = l.length := by omega
        clear R4 H4 V4 T4 hlt hi
        have hTs : w.heap.size ≤ wr.heap.size := T.out.size
        go_wp2_with (at_builtin; go_loud (refine Row.appendRow w.heap.size _ _ (.slice A2 l.length c2) m (some ⟨wr.heap.size, 0, none⟩) 3 3 [201, 202, 203] rfl rfl rfl rfl rfl (R.out.alloc _) (Row.lit wr [201, 202, 203] 5 (by decide)) (Nat.le_trans hTs (by simp)) (by rw [hm]; simp; omega) ?_); intro v5 w3 h1 h2 h3 h4; obtain ⟨A5, c5, rfl, hc5, _⟩ := h1.reads)
        have hb : Below w.heap.size wr w3 := ((Below.refl w.heap.size wr).alloc hTs _).trans h2
        have H3 := Lib.hid (stand H.out LH.out hb)
        have V3 := Lib.hid (standR V.out LV.out hb)
        have T3 := Lib.hid (T.out.above hb)
        clear R H V T h1 h2 h3 h4 hb
        go_wp2_with fail
        refine (Reader.Left_calls g base A c _ _ H3.out).mono ?_
        rintro e w4 ⟨rfl, n4, rfl⟩
        have H4 := Lib.hid (H3.out.drewN n4)
        have V4 := Lib.hid (V3.out.drewN n4)
        have T4 := Lib.hid (T3.out.drewN n4)
        clear H3 V3 T3
        generalize w3.drewN n4 = w4 at *
        go_wp2_with fail
        refine (RReader.Left_calls g' base' A' c' _ _ V4.out).mono ?_
        rintro e w5 ⟨rfl, n5, rfl⟩
        have H5 := Lib.hid (H4.out.drewN n5)
        have V5 := Lib.hid (V4.out.drewN n5)
        have T5 := Lib.hid (T4.out.drewN n5)
        clear H4 V4 T4
        generalize w4.drewN n5 = w5 at *
        go_wp2_with fail
        refine (Reader.Err_calls g base A c _ _ H5.out).mono ?_
        rintro e w6 ⟨rfl, rfl⟩
        go_wp2_with fail
        refine (RReader.Err_calls g' base' A' c' _ _ V5.out).mono ?_
        rintro e w7 ⟨rfl, rfl⟩
        go_wp2
        go_ret
        exact ⟨rfl, by rw [HASK.out]; exact H5.out, by rw [HASK.out]; exact V5.out, T5.out⟩
  by_cases k5 : k = 5
  · subst k5
    have hask : askS s 5 n = s.textS := by unfold askS; simp
    have HU := Lib.hid (Reader.Text_calls g base A c s _ H1.out)
    have HN := Lib.hid (fun W (hW : RReader.Is W base' g' A' c' s) => RReader.Text_calls g' base' A' c' s W hW (by omega) HF.out.2)
    have HASK := Lib.hid hask
    clear hask
    generalize strOfNums s.textL = v at *
    generalize s.textS = s2 at *
    go_enter Try.func24, Try.ntmps24
    go_wp2_with fail
    refine HU.out.mono ?_
    rintro e w2 ⟨rfl, hI, hO⟩
    have V2 := Lib.hid (V1.out.only H1.out hO)
    have HN2 := Lib.hid (HN.out w2 V2.out)
    have T2 := Lib.hid (T1.out.left hO)
    have H2 := Lib.hid hI
    clear hI hO HU HN H1 V1 T1
    go_wp2_with fail
    refine HN2.out.mono ?_
    rintro e w3 ⟨rfl, hI, hO⟩
    have H3 := Lib.hid (H2.out.only V2.out hO)
    have T3 := Lib.hid (T2.out.right hO)
    have V3 := Lib.hid hI
    clear hI hO HN2 H2 T2 V2
    go_wp2_with fail
    refine (Reader.Left_calls g base A c _ _ H3.out).mono ?_
    rintro e w4 ⟨rfl, n4, rfl⟩
    have H4 := Lib.hid (H3.out.drewN n4)
    have V4 := Lib.hid (V3.out.drewN n4)
    have T4 := Lib.hid (T3.out.drewN n4)
    clear H3 V3 T3
    generalize w3.drewN n4 = w4 at *
    go_wp2_with fail
    refine (RReader.Left_calls g' base' A' c' _ _ V4.out).mono ?_
    rintro e w5 ⟨rfl, n5, rfl⟩
    have H5 := Lib.hid (H4.out.drewN n5)
    have V5 := Lib.hid (V4.out.drewN n5)
    have T5 := Lib.hid (T4.out.drewN n5)
    clear H4 V4 T4
    generalize w4.drewN n5 = w5 at *
    go_wp2_with fail
    refine (Reader.Err_calls g base A c _ _ H5.out).mono ?_
    rintro e w6 ⟨rfl, rfl⟩
    go_wp2_with fail
    refine (RReader.Err_calls g' base' A' c' _ _ V5.out).mono ?_
    rintro e w7 ⟨rfl, rfl⟩
    go_wp2
    go_ret
    exact ⟨rfl, by rw [HASK.out]; exact H5.out, by rw [HASK.out]; exact V5.out, T5.out⟩
  · have hask : askS s k n = s := by unfold askS; rw [if_neg k1, if_neg k2, if_neg k4, if_neg k8, if_neg k3, if_neg k5]
    have HASK := Lib.hid hask
    have H3 := H1
    have V3 := V1
    have T3 := T1
    clear hask H1 V1 T1
    have b1 : (k == 1) = false := beq_eq_false_iff_ne.mpr k1
    have b2 : (k == 2) = false := beq_eq_false_iff_ne.mpr k2
    have b3 : (k == 3) = false := beq_eq_false_iff_ne.mpr k3
    have b4 : (k == 4) = false := beq_eq_false_iff_ne.mpr k4
    have b5 : (k == 5) = false := beq_eq_false_iff_ne.mpr k5
    have b8 : (k == 8) = false := beq_eq_false_iff_ne.mpr k8
    go_enter Try.func24, Try.ntmps24
    go_wp2_with fail
    refine (Reader.Left_calls g base A c _ _ H3.out).mono ?_
    rintro e w4 ⟨rfl, n4, rfl⟩
    have H4 := Lib.hid (H3.out.drewN n4)
    have V4 := Lib.hid (V3.out.drewN n4)
    have T4 := Lib.hid (T3.out.drewN n4)
    clear H3 V3 T3
    generalize (w.alloc (.cells #[.int .i64 k, .int .i64 n] 46)).drewN n4 = w4 at *
    go_wp2_with fail
    refine (RReader.Left_calls g' base' A' c' _ _ V4.out).mono ?_
    rintro e w5 ⟨rfl, n5, rfl⟩
    have H5 := Lib.hid (H4.out.drewN n5)
    have V5 := Lib.hid (V4.out.drewN n5)
    have T5 := Lib.hid (T4.out.drewN n5)
    clear H4 V4 T4
    generalize w4.drewN n5 = w5 at *
    go_wp2_with fail
    refine (Reader.Err_calls g base A c _ _ H5.out).mono ?_
    rintro e w6 ⟨rfl, rfl⟩
    go_wp2_with fail
    refine (RReader.Err_calls g' base' A' c' _ _ V5.out).mono ?_
    rintro e w7 ⟨rfl, rfl⟩
    go_wp2
    go_ret
    exact ⟨rfl, by rw [HASK.out]; exact H5.out, by rw [HASK.out]; exact V5.out, T5.out⟩
end Go.Proofs.Ytengdchgfhcdhaa.Asked
