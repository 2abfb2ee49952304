/- What is said here: twin makes the same shares in new memory, with room behind them; kept finds them as they were. -/
import Derived.Test.YtglnepokollijaaShare4
import Derived.Test.YtglnepokollijaaSplits
import Derived.Deep.RegionHeld3
namespace Go.Proofs.Ytglnepokollijaa.Twin
set_option linter.unusedVariables false
set_option linter.unusedSimpArgs false
open Go.RowKit Go.Proofs.Ytglnepokollijaa.Row Go.Proofs.YtglnepokollijaaW.PrintWords Go.Proofs.YtglnepokollijaaW.PrintLast Go.Proofs.YtglnepokollijaaW.PrintMore
open Gf Gfi Poly Share Splits

def cellsT (xs : Nat → Int) (us : Nat → Value) : Nat → List Value
  | 0 => []
  | n + 1 => cellsT xs us n ++ [.int .u8 (xs n), us n]
theorem cellsT_len (xs : Nat → Int) (us : Nat → Value) (n : Nat) : (cellsT xs us n).length = n * 2 := by
  induction n with
  | zero => rfl
  | succ n ih => rw [cellsT, List.length_append, ih]; simp; omega
theorem cellsT_get (xs : Nat → Int) (us : Nat → Value) (n q : Nat) (h : q < n) : (cellsT xs us n)[q * 2]? = some (.int .u8 (xs q)) ∧ (cellsT xs us n)[q * 2 + 1]? = some (us q) := by
  induction n with
  | zero => omega
  | succ n ih =>
    have hl := cellsT_len xs us n
    rw [cellsT]
    by_cases hq : q < n
    · obtain ⟨h1, h2⟩ := ih hq
      rw [List.getElem?_append_left (by omega), List.getElem?_append_left (by omega)]
      exact ⟨h1, h2⟩
    · obtain rfl : q = n := by omega
      rw [List.getElem?_append_right (by omega), List.getElem?_append_right (by omega), hl]
      simp
theorem cellsT_congr (xs : Nat → Int) (us us' : Nat → Value) (n : Nat) (h : ∀ q, q < n → us q = us' q) : cellsT xs us n = cellsT xs us' n := by
  induction n with
  | zero => rfl
  | succ n ih => rw [cellsT, cellsT, ih (fun q hq => h q (by omega)), h n (by omega)]
/-- A row of shares of the call's own. -/
def IsT (W : World) (base : Nat) (v : Value) (n : Nat) (xs : Nat → Int) (us : Nat → Value) : Prop := W.ownsRow base 44 2 v n (cellsT xs us n)
variable {W W' : World} {base : Nat} {v : Value} {n : Nat} {xs : Nat → Int} {us : Nat → Value}
theorem IsT.nil (W : World) (base : Nat) (xs : Nat → Int) (us : Nat → Value) : IsT W base (.slice none 0 0) 0 xs us := own_nil W base _ _
theorem IsT.move (h : IsT W base v n xs us) (hm : ∀ k, v.ownBlock = some k → W'.heap[k]? = W.heap[k]?) : IsT W' base v n xs us := own_move h hm
theorem IsT.lt (h : IsT W base v n xs us) (k : Nat) (hk : v.ownBlock = some k) : base ≤ k ∧ k < W.heap.size := ⟨own_base h k hk, own_lt h k hk⟩
theorem IsT.below (h : IsT W base v n xs us) (hb : Below W.heap.size W W') : IsT W' base v n xs us := h.move (fun k hk => hb.block k (h.lt k hk).2)
theorem IsT.apart {u : Value} {l : List Int} (h : IsT W base v n xs us) (h' : Row.Is W base u l) (k : Nat) (hk : v.ownBlock = some k) (hk' : u.ownBlock = some k) : False := by
  rcases h.2 with ⟨e, _⟩ | ⟨g, c, cur, e, _, hg, _⟩
  · rw [e] at hk; cases hk
  rcases h'.2 with ⟨e', _⟩ | ⟨g', c', cur', e', _, hg', _⟩
  · rw [e'] at hk'; cases hk'
  rw [e] at hk
  rw [e'] at hk'
  injection hk with hk
  injection hk' with hk'
  subst hk
  subst hk'
  rw [hg] at hg'
  injection hg' with hg'
  injection hg' with _ ht _
  exact absurd ht (by decide)
theorem IsT.form (h : IsT W base v n xs us) : ∃ A c, v = .slice A n c ∧ n ≤ c ∧ (0 < n → ∃ g, A = some ⟨g, 0, none⟩) := by
  rcases h.2 with ⟨e, e0⟩ | ⟨g, c, cur, e, _, _, h1, _⟩
  · exact ⟨none, 0, by rw [e, e0], by omega, fun h => by omega⟩
  · exact ⟨_, c, e, h1, fun _ => ⟨g, rfl⟩⟩
theorem IsT.cell {g c : Nat} (h : IsT W base (.slice (some ⟨g, 0, none⟩) n c) n xs us) (q : Nat) (hq : q < n) : W.cell? ⟨g, q * 2, none⟩ = some (.int .u8 (xs q)) ∧ W.cell? ⟨g, q * 2 + 1, none⟩ = some (us q) := by
  rcases h.2 with ⟨e, _⟩ | ⟨g', c', cur, e, _, hg, _, _, _, h4⟩
  · cases e
  injection e with e _ _
  injection e with e
  injection e with e
  subst e
  have hb : Blk.Is W g cur 44 := hg
  obtain ⟨h1, h2⟩ := cellsT_get xs us n q hq
  rw [← h4, List.getElem?_take] at h1 h2
  rw [hb.cell, hb.cell]
  constructor
  · split at h1
    · rwa [Array.getElem?_toList] at h1
    · cases h1
  · split at h2
    · rwa [Array.getElem?_toList] at h2
    · cases h2
section
variable {ops : Array Oper} {o : Oper} {a : Act} {Q : Exit → Act → World → Prop} {Kc : Act → World → Prop}
/-- A share is appended, in a region that draws its order. -/
theorem appendT (base : Nat) (hw : Region.wanted o (yielded ops a.tmps) = true) (s x : Operand) (v u : Value) (y : Int) (n : Nat) (xs : Nat → Int) (us : Nat → Value) (ho : o.op = .call { callee := .builtin .append, args := #[s, x], argTypes := #[27, 27] })
    (hs : a.eval s = v) (hx : a.eval x = .slice (some ⟨W.heap.size, 0, none⟩) 1 1) (HO : IsT W base v n xs us) (hu : u.oneCell' = true) (hy : xs n = y) (hbase : base ≤ W.heap.size) (hl : n ≤ 1000000)
    (h : ∀ v1 w1, IsT w1 base v1 (n + 1) xs (Apart.upd us n u) → Below base W w1 → W.grownBy w1 v.ownBlock → Kc (a.put o.dst v1) w1) :
    if Region.wanted o (yielded ops a.tmps) = true then Oper.wp Try.prog o a (W.alloc (.cells #[.int .u8 y, u] 44)) Kc Q else Kc (a.put o.dst undef) (W.alloc (.cells #[.int .u8 y, u] 44)) := by
  refine step_append_cells (w0 := W) base hw s x 27 44 (.agg #[.int .u8 0, .slice none 0 0]) 2 32 ho Try.underlying27 infoS rfl (by decide) (by decide) v n (cellsT xs us n) [.int .u8 y, u] hs hx rfl (by intro z hz; simp at hz; rcases hz with rfl | rfl; rfl; exact hu) HO (Below.refl _ _) hbase (by omega) ?_
  intro v1 w1 h1 h2 h3 _
  refine h v1 w1 ?_ h2 h3
  unfold IsT
  rw [cellsT, cellsT_congr xs (Apart.upd us n u) us n (fun q hq => Apart.upd_ne us n q u (by omega)), Apart.upd_at, hy]
  exact h1
end
/-- Shares that twin made. -/
structure Own (w W : World) (v : Value) (n : Nat) (xs : Nat → B) (us : Nat → Value) (ls : Nat → List Int) : Prop where
  row : IsT W w.heap.size v n (fun q => ofB (xs q)) us
  each : ∀ q, q < n → Room.Is W w.heap.size (us q) (ls q)
  un : ∀ p q, p < q → q < n → ∀ k, (us p).ownBlock = some k → ∀ k', (us q).ownBlock = some k' → k < k'
  below : Below w.heap.size w W
theorem Own.step {w : World} {xs : Nat → B} {ls : Nat → List Int} (h : Own w W v n xs us ls) (hb : Below W.heap.size W W') : Own w W' v n xs us ls :=
  ⟨h.row.below hb, fun q hq => (h.each q hq).below hb, h.un, h.below.trans (hb.mono h.below.size)⟩
theorem Own.lt {w : World} {xs : Nat → B} {ls : Nat → List Int} (h : Own w W v n xs us ls) (q : Nat) (hq : q < n) (k : Nat) (hk : (us q).ownBlock = some k) : w.heap.size ≤ k ∧ k < W.heap.size := (Is.row (h.each q hq)).lt k hk
theorem Own.uns {w : World} {xs : Nat → B} {ls : Nat → List Int} (h : Own w W v n xs us ls) : ∀ p q, p < n → q < n → p ≠ q → ∀ k, (us p).ownBlock = some k → (us q).ownBlock ≠ some k := by
  intro p q hp hq hne k e1 e2
  rcases Nat.lt_or_gt_of_ne hne with hlt | hlt
  · have := h.un p q hlt hq k e1 k e2; omega
  · have := h.un q p hlt hp k e2 k e1; omega
/-- They can be read as shares that came in. -/
theorem Own.readsS {w : World} {xs : Nat → B} {ls : Nat → List Int} {A : Option Addr} {c : Nat} (h : Own w W (.slice A n c) n xs us ls) : ReadsS W A n xs ls := by
  intro hn
  obtain ⟨A', c', e, _, hA⟩ := h.row.form
  obtain ⟨rfl, _, rfl⟩ := Value.slice.inj e
  obtain ⟨g, rfl⟩ := hA hn
  refine ⟨_, rfl, fun q hq => ?_⟩
  obtain ⟨h1, h2⟩ := h.row.cell q hq
  obtain ⟨C, cc, e2, h3, h4⟩ := (h.each q hq).reads
  rw [e2] at h2
  have e : (⟨g, 0, none⟩ : Addr).add (q * 2) = ⟨g, q * 2, none⟩ := by rw [add_plain]
  rw [e]
  exact ⟨h1, C, cc, h2, h3, h4⟩
theorem Own.rows {w : World} {xs : Nat → B} {ls : Nat → List Int} {A : Option Addr} {c : Nat} (h : Own w W (.slice A n c) n xs us ls) : Ys.Rows W A n us := by
  intro hn
  obtain ⟨A', c', e, _, hA⟩ := h.row.form
  obtain ⟨rfl, _, rfl⟩ := Value.slice.inj e
  obtain ⟨g, rfl⟩ := hA hn
  refine ⟨_, rfl, fun q hq => ?_⟩
  obtain ⟨h1, h2⟩ := h.row.cell q hq
  obtain ⟨C, cc, e2, h3, h4⟩ := (h.each q hq).reads
  have e : (⟨g, 0, none⟩ : Addr).add (q * 2) = ⟨g, q * 2, none⟩ := by rw [add_plain]
  rw [e]
  exact ⟨h2, _, _, _, e2⟩

/-- One share more. -/
theorem own_next {w w2 w3 : World} {v v1 u : Value} {i : Nat} {xs : Nat → B} {us : Nat → Value} {ls : Nat → List Int} (h : Own w w2 v i xs us ls) (hR : Room.Is w2 w.heap.size u (ls i)) (hU : ∀ p, p < i → ∀ k, (us p).ownBlock = some k → ∀ k', u.ownBlock = some k' → k < k')
    (h1 : IsT w3 w.heap.size v1 (i + 1) (fun q => ofB (xs q)) (Apart.upd us i u)) (h2 : Below w.heap.size w2 w3) (h3 : w2.grownBy w3 v.ownBlock) : Own w w3 v1 (i + 1) xs (Apart.upd us i u) ls := by
  have keep : ∀ x l, Room.Is w2 w.heap.size x l → Room.Is w3 w.heap.size x l := fun x l hx => by
    have hrow := Is.row hx
    obtain ⟨g, cap, rfl, hc, ho⟩ := hx
    refine ⟨g, cap, rfl, hc, own_move ho (fun k hk => ?_)⟩
    have hk' : (Value.slice (some ⟨g, 0, none⟩) l.length cap).ownBlock = some k := hk
    exact h3.block k (hrow.lt k hk').2 (fun e => h.row.apart hrow k e.symm hk')
  refine ⟨h1, fun q hq => ?_, fun p q hp hq => ?_, h.below.trans h2⟩
  · by_cases e : q = i
    · subst e
      rw [Apart.upd_at]
      exact keep _ _ hR
    · rw [Apart.upd_ne _ _ _ _ e]
      exact keep _ _ (h.each q (by omega))
  · rw [Apart.upd_ne _ _ _ _ (show p ≠ i by omega)]
    by_cases e : q = i
    · subst e
      rw [Apart.upd_at]
      exact hU p (by omega)
    · rw [Apart.upd_ne _ _ _ _ e]
      exact h.un p q hp (by omega)

set_option maxRecDepth 100000 in
set_option maxHeartbeats 4000000 in
theorem twin_calls (A : Option Addr) (c n : Nat) (xs : Nat → B) (ls : Nat → List Int) (w : World) (h : ReadsS w A n xs ls) (hn : n ≤ 1000) (hl : ∀ q, q < n → (ls q).length ≤ 100000000) :
    Calls Try.prog 23 #[.slice A n c] w fun e w' => ∃ v us, e = .returned v ∧ Own w w' v n xs us ls := by
  have H := Lib.hid h
  have HL := Lib.hid hl
  clear h hl
  go_enter Try.func23, Try.ntmps23
  go_wp2_with fail
  go_loopw [3, 4] (fun v3 v4 wr => ∃ (i : Nat) (us : Nat → Value), i ≤ n ∧ v4 = .int .i64 (i : Int) ∧ Hid (Own w wr v3 i xs us ls)) (fun _ v4 _ => n - (intOf v4).toNat)
  case atStart => exact ⟨0, fun _ => .slice none 0 0, by omega, rfl, IsT.nil _ _ _ _, fun q h => absurd h (Nat.not_lt_zero q), fun p q _ h => absurd h (Nat.not_lt_zero q), Below.refl _ _⟩
  case round =>
    obtain ⟨i, us, hi, rfl, HT⟩ := hrel
    by_cases hlt : i < n
    · obtain ⟨ad, rfl, hc⟩ := H.out (by omega)
      obtain ⟨hx0, C, cc, hx1, hcc, hC⟩ := hc i hlt
      have hLm : (ls i).length ≤ 100000000 := HL.out i hlt
      have HF : Hid (∀ W, Below w.heap.size w W → W.cell? (ad.add (i * 2)) = some (.int .u8 (ofB (xs i))) ∧ W.cell? ⟨(ad.add (i * 2)).block, (ad.add (i * 2)).off + 1, none⟩ = some (.slice C (ls i).length cc)) := fun W hb => ⟨(hb.cell (World.block_lt_of_cell? _ _ hx0)).trans hx0, (hb.cell (World.block_lt_of_cell? _ _ hx1)).trans hx1⟩
      have HC := Lib.hid hC
      clear hc hx0 hx1 hC
      have hw1 : Hid (ofB (xs i) = ofB (xs i)) := rfl
      go_wp2_with fail
      -- region 5
      refine start_ (n := 16) (S := fun w' => w'.cell? (ad.add (i * 2)) = some (.int .u8 (ofB (xs i))) ∧ w'.cell? ⟨(ad.add (i * 2)).block, (ad.add (i * 2)).off + 1, none⟩ = some (.slice C (ls i).length cc)) (ds := []) #[false, false, false, false, false, false, false, false, false, false, false, false, false, false, false, false] (by kernel_rfl) rfl rfl ⟨(HF.out _ (pw_below_drewN HT.out.below 1)).1, (HF.out _ (pw_below_drewN HT.out.below 1)).2⟩ (fun hHeld => ?_)
      have HT1 := Lib.hid (HT.out.step (pw_below_drewN (Below.refl _ wr) 1))
      clear HT
      change Hid (Own w wr.drew _ _ _ _ _) at HT1
      generalize wr.drew = w1 at *
      refine pure_ (i := 0) (N := some 11) (v := ?_) (a' := ?_) #[true, false, false, false, false, false, false, false, false, false, false, false, false, false, false, false] rfl rfl (by kernel_rfl) (fun _ _ _ h => h) (Or.inl ⟨by rfl, ?_⟩) ?_ ?_
      rotate_left
      · intro w'
        go_simp
        with_reducible rfl
      rotate_left
      · simp only [Act.put, List.setIfInBounds_toArray, List.set_cons_zero, List.set_cons_succ, i64_w, i32_w]
        rfl
      refine pure_ (i := 1) (N := some 12) (v := ?_) (a' := ?_) #[true, true, false, false, false, false, false, false, false, false, false, false, false, false, false, false] rfl rfl (by kernel_rfl) (fun _ _ _ h => h) (Or.inl ⟨by rfl, ?_⟩) ?_ ?_
      rotate_left
      · intro w'
        go_simp
        with_reducible rfl
      rotate_left
      · simp only [Act.put, List.setIfInBounds_toArray, List.set_cons_zero, List.set_cons_succ, i64_w, i32_w]
        rfl
      refine pure_ (i := 2) (N := some 13) (v := ?_) (a' := ?_) #[true, true, true, false, false, false, false, false, false, false, false, false, false, false, false, false] rfl rfl (by kernel_rfl) (fun _ _ _ h => h) (Or.inl ⟨by rfl, ?_⟩) ?_ ?_
      rotate_left
      · intro w'
        go_simp
        with_reducible rfl
      rotate_left
      · simp only [Act.put, List.setIfInBounds_toArray, List.set_cons_zero, List.set_cons_succ, i64_w, i32_w]
        rfl
      refine pure_ (i := 3) (N := some 14) (v := ?_) (a' := ?_) #[true, true, true, true, false, false, false, false, false, false, false, false, false, false, false, false] rfl rfl (by kernel_rfl) (fun _ _ _ h => h) (Or.inl ⟨by rfl, ?_⟩) ?_ ?_
      rotate_left
      · intro w'
        go_simp
        with_reducible rfl
      rotate_left
      · simp only [Act.put, List.setIfInBounds_toArray, List.set_cons_zero, List.set_cons_succ, i64_w, i32_w]
        rfl
      refine pure_ (i := 4) (N := some 15) (v := ?_) (a' := ?_) #[true, true, true, true, true, false, false, false, false, false, false, false, false, false, false, false] rfl rfl (by kernel_rfl) (fun _ _ _ h => h) (Or.inl ⟨by rfl, ?_⟩) ?_ ?_
      rotate_left
      · intro w'
        go_simp
        with_reducible rfl
      rotate_left
      · simp only [Act.put, List.setIfInBounds_toArray, List.set_cons_zero, List.set_cons_succ, i64_w, i32_w]
        rfl
      refine pure_ (i := 6) (N := some 17) (v := ?_) (a' := ?_) #[true, true, true, true, true, false, true, false, false, false, false, false, false, false, false, false] rfl rfl (by kernel_rfl) (fun _ _ _ h => h) (Or.inl ⟨by rfl, ?_⟩) ?_ ?_
      rotate_left
      · intro w'
        go_simp
        with_reducible rfl
      rotate_left
      · simp only [Act.put, List.setIfInBounds_toArray, List.set_cons_zero, List.set_cons_succ, i64_w, i32_w]
        rfl
      refine pure_ (i := 7) (N := some 18) (v := ?_) (a' := ?_) #[true, true, true, true, true, false, true, true, false, false, false, false, false, false, false, false] rfl rfl (by kernel_rfl) (fun _ _ _ h => h) (Or.inl ⟨by rfl, ?_⟩) ?_ ?_
      rotate_left
      · intro w'
        go_simp
        with_reducible rfl
      rotate_left
      · simp only [Act.put, List.setIfInBounds_toArray, List.set_cons_zero, List.set_cons_succ, i64_w, i32_w]
        rfl
      refine pure_ (i := 8) (N := some 19) (v := ?_) (a' := ?_) #[true, true, true, true, true, false, true, true, true, false, false, false, false, false, false, false] rfl rfl (by kernel_rfl) (fun _ _ _ h => h) (Or.inl ⟨by rfl, ?_⟩) ?_ ?_
      rotate_left
      · intro w'
        go_simp
        with_reducible rfl
      rotate_left
      · simp only [Act.put, List.setIfInBounds_toArray, List.set_cons_zero, List.set_cons_succ, i64_w, i32_w]
        rfl
      refine pure_ (i := 9) (N := some 20) (v := ?_) (a' := ?_) #[true, true, true, true, true, false, true, true, true, true, false, false, false, false, false, false] rfl rfl (by kernel_rfl) (fun _ _ _ h => h) (Or.inl ⟨by rfl, ?_⟩) ?_ ?_
      rotate_left
      · intro w'
        go_simp
        with_reducible rfl
      rotate_left
      · simp only [Act.put, List.setIfInBounds_toArray, List.set_cons_zero, List.set_cons_succ, i64_w, i32_w]
        rfl
      refine take_ (i := 5) (N := some 16) (v := ?_) (a' := ?_) #[true, true, true, true, true, true, true, true, true, true, false, false, false, false, false, false] rfl rfl (by kernel_rfl) (fun _ _ _ h => h) (Or.inl ⟨by rfl, ?_⟩) hHeld ?_ ?_
      rotate_left
      · rintro w' ⟨s0, s1⟩
        go_simp
        with_reducible rfl
      rotate_left
      · simp only [Act.put, List.setIfInBounds_toArray, List.set_cons_zero, List.set_cons_succ, i64_w, i32_w]
        rfl
      refine take_ (i := 10) (N := some 21) (v := ?_) (a' := ?_) #[true, true, true, true, true, true, true, true, true, true, true, false, false, false, false, false] rfl rfl (by kernel_rfl) (fun _ _ _ h => h) (Or.inl ⟨by rfl, ?_⟩) hHeld ?_ ?_
      rotate_left
      · rintro w' ⟨s0, s1⟩
        go_simp
        with_reducible rfl
      rotate_left
      · simp only [Act.put, List.setIfInBounds_toArray, List.set_cons_zero, List.set_cons_succ, i64_w, i32_w]
        rfl
      refine one_ (i := 11) (N := some 22) #[true, true, true, true, true, true, true, true, true, true, true, true, false, false, false, false] rfl rfl (by kernel_rfl) (by decide) (fun K hK => ?_)
      refine goes_ Try.func9 (by kernel_rfl) rfl #[.slice C (ls i).length cc] (by rfl) rfl rfl (by simp only [List.map_toArray, List.map_cons, List.map_nil]; rfl) ?_
      with_reducible refine (Room.roomy_calls C cc (ls i) w1 (Kd.C_below HC.out HT1.out.below) hcc (by omega)).mono ?_
      rintro e w2 ⟨u, rfl, hR, hb⟩
      refine ⟨_, rfl, ?_⟩
      have HT2 := Lib.hid (HT1.out.step hb)
      have HRm := Lib.hid (hR.low HT1.out.below.size)
      have HU : Hid (∀ p, p < i → ∀ k, (us p).ownBlock = some k → ∀ k', u.ownBlock = some k' → k < k') := fun p hp k hk k' hk' => Nat.lt_of_lt_of_le (HT1.out.lt p hp k hk).2 ((Is.row hR).lt k' hk').1
      obtain ⟨C2, c2, rfl, _, _⟩ := hR.reads
      clear HT1 hR hb
      refine hK.out _ _ ⟨(HF.out _ HT2.out.below).1, (HF.out _ HT2.out.below).2⟩ (fun hHeld => ?_)
      clear hK K
      refine norm_ (a' := ?_) ?_ ?_
      rotate_left
      · show Act.put _ (some 22) _ = _
        simp only [Act.put, List.setIfInBounds_toArray, List.set_cons_zero, List.set_cons_succ, i64_w, i32_w]
        rfl
      refine pure_ (i := 12) (N := some 23) (v := ?_) (a' := ?_) #[true, true, true, true, true, true, true, true, true, true, true, true, true, false, false, false] rfl rfl (by kernel_rfl) (fun _ _ _ h => h) (Or.inl ⟨by rfl, ?_⟩) ?_ ?_
      rotate_left
      · intro w'
        go_simp
        with_reducible rfl
      rotate_left
      · simp only [Act.put, List.setIfInBounds_toArray, List.set_cons_zero, List.set_cons_succ, i64_w, i32_w]
        rfl
      refine one_ (i := 13) (N := some 24) #[true, true, true, true, true, true, true, true, true, true, true, true, true, true, false, false] rfl rfl (by kernel_rfl) (by decide) (fun K hK => ?_)
      refine value_ (w1 := ?_) (v := ?_) (by rfl) rfl ?_ ?_
      rotate_left 2
      · go_simp
        constructor
        · rfl
        · rfl
      refine hK.out _ _ ⟨(HF.out _ (HT2.out.below.alloc HT2.out.below.size _)).1, (HF.out _ (HT2.out.below.alloc HT2.out.below.size _)).2⟩ (fun hHeld => ?_)
      clear hK K
      refine norm_ (a' := ?_) ?_ ?_
      rotate_left
      · show Act.put _ (some 24) _ = _
        simp only [Act.put, List.setIfInBounds_toArray, List.set_cons_zero, List.set_cons_succ, i64_w, i32_w]
        rfl
      refine one_ (i := 14) (N := some 25) #[true, true, true, true, true, true, true, true, true, true, true, true, true, true, true, false] rfl rfl (by kernel_rfl) (by decide) (fun K hK => ?_)
      refine appendT w.heap.size rfl _ _ u3 (.slice C2 (ls i).length c2) (ofB (xs i)) i (fun q => ofB (xs q)) us rfl rfl rfl HT2.out.row rfl rfl HT2.out.below.size (by omega) ?_
      intro v1 w3 h1 h2 h3
      have HT3 : Hid (Own w w3 v1 (i + 1) xs (Apart.upd us i (.slice C2 (ls i).length c2)) ls) := own_next HT2.out HRm.out HU.out h1 h2 h3
      clear h1 h2 h3 HT2 HRm HU
      refine hK.out _ _ ⟨(HF.out _ HT3.out.below).1, (HF.out _ HT3.out.below).2⟩ (fun hHeld => ?_)
      clear hK K
      refine norm_ (a' := ?_) ?_ ?_
      rotate_left
      · show Act.put _ (some 25) _ = _
        simp only [Act.put, List.setIfInBounds_toArray, List.set_cons_zero, List.set_cons_succ, i64_w, i32_w]
        rfl
      refine pure_ (i := 15) (N := some 3) (v := ?_) (a' := ?_) #[true, true, true, true, true, true, true, true, true, true, true, true, true, true, true, true] rfl rfl (by kernel_rfl) (fun _ _ _ h => h) (Or.inl ⟨by rfl, ?_⟩) ?_ ?_
      rotate_left
      · intro w'
        go_simp
        with_reducible rfl
      rotate_left
      · simp only [Act.put, List.setIfInBounds_toArray, List.set_cons_zero, List.set_cons_succ, i64_w, i32_w]
        rfl
      refine done_ (by kernel_rfl) ?_
      -- behind it
      go_wp2
      go_roundw
      case rel => exact ⟨i + 1, _, by omega, by go_num, HT3⟩
      case measure => simp [intOf]; omega
    · obtain rfl : n = i := by omega
      go_wp2
      go_ret
      exact ⟨_, _, rfl, HT.out⟩
end Go.Proofs.Ytglnepokollijaa.Twin
namespace Go.Proofs.Ytglnepokollijaa.Twin
set_option linter.unusedVariables false
set_option linter.unusedSimpArgs false
open Go.RowKit Go.Proofs.Ytglnepokollijaa.Row Go.Proofs.YtglnepokollijaaW.PrintWords Go.Proofs.YtglnepokollijaaW.PrintLast Go.Proofs.YtglnepokollijaaW.PrintMore
open Gf Gfi Poly Share Splits PT

/-- What Kept tells of a row that Roomy made, after some draws. -/
theorem kept_quiet {W : World} {base : Nat} {C2 C : Option Addr} {c2 cc : Nat} {l : List Int} (hR : Room.Is W base (.slice C2 l.length c2) l) (hC : Kd.C (Kd.int .u8) W C l.length l) (hcc : l.length ≤ cc) (m q : Nat) :
    Calls Try.prog 13 #[.slice C2 l.length c2, .slice C l.length cc] (W.drewN (m + q)) fun e w'' => e = .returned (.bool true) ∧ ∃ m2, w'' = W.drewN (m + m2) := by
  refine (Room.kept_calls base _ C cc l (W.drewN (m + q)) hR hC hcc).mono ?_
  rintro e w' ⟨rfl, ⟨nd, rfl⟩⟩
  exact ⟨rfl, q + nd, by rw [World.drewN_drewN, Nat.add_assoc]⟩

set_option maxRecDepth 100000 in
set_option maxHeartbeats 4000000 in
theorem kept_calls {w0 : World} (A' A : Option Addr) (c' c n : Nat) (xs : Nat → B) (us : Nat → Value) (ls : Nat → List Int) (w : World) (h : Own w0 w (.slice A' n c') n xs us ls) (hr : ReadsS w A n xs ls) (hn : n ≤ 1000) :
    Calls Try.prog 26 #[.slice A' n c', .slice A n c] w fun e w' => e = .returned (.bool true) ∧ Drawn0 w w' := by
  have H := Lib.hid h
  have HR := Lib.hid hr
  clear h hr
  go_enter Try.func26, Try.ntmps26
  go_wp2_with fail
  go_loopw [5] (fun v5 wr => ∃ (i m : Nat), i ≤ n ∧ v5 = .int .i64 (i : Int) ∧ wr = w.drewN m) (fun v5 _ => n - (intOf v5).toNat)
  case atStart => exact ⟨0, 0, by omega, rfl, rfl⟩
  case round =>
    obtain ⟨i, m, hi, rfl, rfl⟩ := hrel
    by_cases hlt : i < n
    · obtain ⟨ad, rfl, hc⟩ := HR.out (by omega)
      obtain ⟨hx0, C, cc, hx1, hcc, hC⟩ := hc i hlt
      obtain ⟨A2, c2', e, _, hA⟩ := H.out.row.form
      obtain ⟨rfl, _, rfl⟩ := Value.slice.inj e
      obtain ⟨g, rfl⟩ := hA (by omega)
      obtain ⟨hy0, hy1⟩ := H.out.row.cell i hlt
      have hRm := H.out.each i hlt
      obtain ⟨C2, c2, e2, _, _⟩ := hRm.reads
      rw [e2] at hy1 hRm
      have HQ := Lib.hid (kept_quiet hRm hC hcc)
      clear hc hC hcc e hA hRm e2
      generalize (ls i).length = L at *
      generalize ofB (xs i) = x at *
      go_wp2
      go_quiet (exact HQ.out _ _)
      go_wp2
      go_roundw
      case rel => exact ⟨i + 1, _, by omega, by go_num, rfl⟩
      case measure => simp [intOf]; omega
    · obtain rfl : n = i := by omega
      go_wp2
      go_ret
      exact ⟨rfl, ⟨m, rfl⟩⟩
/-- Shares that are read, as the print words it. -/
theorem reads_C {W : World} {A : Option Addr} {l : List S44} (h : ReadsS W A l.length (fun i => toB (l.getD i z44).f0) (fun i => (l.getD i z44).f1)) (hr : ∀ s ∈ l, 0 ≤ s.f0 ∧ s.f0 < 256) (hl : l.length ≤ 9223372036854775807) : Kd.C k44 W A l.length l := by
  refine ⟨rfl, hl, fun h0 => ?_⟩
  obtain ⟨ad, e, hc⟩ := h h0
  refine ⟨ad, e, fun j p hj => ?_⟩
  obtain ⟨hjl, rfl⟩ := List.getElem?_eq_some_iff.1 hj
  obtain ⟨h1, C, cc, h2, h3, h4⟩ := hc j hjl
  have e1 : l.getD j z44 = l[j] := by rw [List.getD_eq_getElem?_getD, List.getElem?_eq_getElem hjl]; rfl
  have hm := hr _ (List.getElem_mem hjl)
  simp only [e1] at h1 h2 h3 h4
  rw [ofB_toB hm.1 hm.2] at h1
  refine ⟨[.int .u8 l[j].f0, .slice C l[j].f1.length cc], rfl, k44_mk W l[j] h3 h4, fun i u hu => ?_⟩
  show W.cell? (ad.add (j * 2 + i)) = some u
  match i, hu with
  | 0, hu =>
    injection hu with hu
    subst hu
    exact h1
  | 1, hu =>
    injection hu with hu
    subst hu
    rw [add_field _ _ 1 (by decide)]
    exact h2
  | i + 2, hu => simp at hu
end Go.Proofs.Ytglnepokollijaa.Twin
