/- What is said here: what gcm.Open answers. -/
import Derived.Test.YtbebmbcjddibaaaGl
import Derived.Test.YtbebmbcjddibaaaGw
namespace Go.Proofs.Ytbebmbcjddibaaa.Gcm
set_option linter.unusedVariables false
set_option linter.unusedSimpArgs false
open Go.RowKit Go.Proofs.YtbebmbcjddibaaaW.PrintWords Go.Proofs.YtbebmbcjddibaaaW.PrintLast Go.Proofs.YtbebmbcjddibaaaW.PrintMore Go.Proofs.Ytbebmbcjddibaaa.PG Gf Gfi Poly AesF Aes Lng
attribute [local go_sem ↓] ld53 st53 ld23 st23 ld22 ld12
set_option maxRecDepth 100000 in
set_option maxHeartbeats 4000000 in
/-- Fewer than sixteen bytes are not opened. -/
theorem open_short (key nonce : Nat → B) (A1 A2 : Option Addr) (c1 c2 : Nat) (l1 l2 : List Int) (w : World) (hl : l2.length < 16) :
    Calls Try.prog 15 #[.agg (cB 32 key), .agg (cB 12 nonce), .slice A1 l1.length c1, .slice A2 l2.length c2] w fun e w' => e = .returned (.tuple #[.slice none 0 0, .int .i64 10]) ∧ Below w.heap.size w w' := by
  have HB0 := Lib.hid (((Below.refl _ w).alloc (Nat.le_refl _) (.cells (cB 32 key) 22)).alloc (by simp) (.cells (cB 12 nonce) 23))
  have g1 : (l2.length : Int) - 16 < 0 := by omega
  go_enter Try.func15, Try.ntmps15
  go_wp2_with fail
  go_ret2
  exact ⟨rfl, HB0.out⟩
set_option maxRecDepth 100000 in
set_option maxHeartbeats 4000000 in
/-- Too much is not opened. -/
theorem open_long (key nonce : Nat → B) (A1 A2 : Option Addr) (c1 c2 : Nat) (l1 l2 : List Int) (w : World) (n : Nat) (hn : l2.length = n + 16) (hf : n < 1000000) (hl : 65536 < l1.length ∨ 65536 < n) :
    Calls Try.prog 15 #[.agg (cB 32 key), .agg (cB 12 nonce), .slice A1 l1.length c1, .slice A2 l2.length c2] w fun e w' => e = .returned (.tuple #[.slice none 0 0, .int .i64 3]) ∧ Below w.heap.size w w' := by
  have HB0 := Lib.hid (((Below.refl _ w).alloc (Nat.le_refl _) (.cells (cB 32 key) 22)).alloc (by simp) (.cells (cB 12 nonce) 23))
  have hs : IntKind.i64.wrap ((l2.length : Int) - 16) = (n : Int) := by rw [i64_w, show (l2.length : Int) - 16 = (n : Int) by omega]; unfold wrap64; omega
  have g0 : ¬ (n : Int) < 0 := by omega
  by_cases h1 : 65536 < l1.length
  · have g1 : (l1.length : Int) > 65536 := by omega
    go_enter Try.func15, Try.ntmps15
    go_wp2_with fail
    go_ret2
    exact ⟨rfl, HB0.out⟩
  · have g1 : ¬ (l1.length : Int) > 65536 := by omega
    have g2 : (n : Int) > 65536 := by omega
    go_enter Try.func15, Try.ntmps15
    go_wp2_with fail
    go_ret2
    exact ⟨rfl, HB0.out⟩
theorem tail_ld {w : World} {ad : Addr} {c : Nat} {l : List Int} (h : Txt w (some ad) c l) (n : Nat) (hn : l.length = n + 16) : (Blk.ld 37 (.pointer (some (ad.add n)))).run Try.prog w = .ok (.agg (cB 16 (chunk l n))) w := by
  have e : cB 16 (chunk l n) = ((cB 16 (chunk l n)).toList).toArray := by simp
  rw [e]
  refine ld_any w (ad.add n) 37 _ _ ?_ rfl Try.underlying37 (by rw [Array.length_toList, cB_size]; kernel_rfl)
  intro j v hj
  rw [Array.getElem?_toList] at hj
  by_cases hj16 : j < 16
  · rw [cB_get 16 _ _ hj16] at hj
    injection hj with hj
    subst hj
    rw [Addr.add_add]
    obtain ⟨ad', e', hc⟩ := txt_cell h (n + j) (by omega)
    injection e' with e'
    subst e'
    exact hc
  · rw [Array.getElem?_eq_none (by rw [cB_size]; omega)] at hj
    exact absurd hj (by simp)
theorem Txt.take {w : World} {A : Option Addr} {c : Nat} {l : List Int} (h : Txt w A c l) (n : Nat) (hn : n ≤ l.length) : Txt w A c (l.take n) := by
  have hr := (Kd.reads_of_C (d := (0 : Int)) h.row).take_ n hn
  have hl : (l.take n).length = n := by rw [List.length_take]; omega
  refine ⟨?_, by rw [hl]; have := h.le; omega, fun x hx => h.by_ x (List.mem_of_mem_take hx), by rw [hl]; have := h.few; omega⟩
  rw [hl]
  exact Kd.C_of_reads (d := (0 : Int)) (h1 := fun _ => rfl) hr
section
variable {ops : Array Oper} {Q : Exit → Act → World → Prop}
/-- A call of a closure, in a region that draws its order. -/
theorem goesC_ {P : Program} {oi : Oper} {N : Option Tmp} {a : Act} {w : World} {K : Act → World → Prop} {f : FuncId} {fn : Func} {x : Operand} {caps : Array Value} (hf : P.funcs[f]? = some fn) (hname : (fn.name == "runtime.NumGoroutine") = false) (hb : fn.body.isSome = true)
    (hw : Region.wanted oi (yielded ops a.tmps) = true) (hN : oi.dst = N) (hop : oi.op = .call { callee := .value x, args := #[], argTypes := #[] }) (hx : a.eval x = .func (.func f) #[] caps)
    (h : Calls P f caps w fun e w' => ∃ v, e = .returned v ∧ K (a.put N v) w') : if Region.wanted oi (yielded ops a.tmps) = true then Oper.wp P oi a w K Q else K (a.put N undef) w := by
  refine call_ f caps hw hN ?_ h
  have he := enters_ hf hname hb caps w
  unfold execOp
  simp [hop, resolve, Deferred.ofValue, invoke, hx, he]
end
set_option maxRecDepth 100000 in
set_option maxHeartbeats 4000000 in
theorem open_calls (key nonce kc : Nat → B) (E : (Nat → B) → Nat → B) (hE : ∀ (b : Nat → B) (w : World), Calls Try.prog 35 #[.agg (cB 752 kc), .agg (cB 16 b)] w fun e w' => e = .returned (.agg (cB 16 (E b))) ∧ Below w.heap.size w w')
    (hX : ∀ w : World, Calls Try.prog 22 #[.agg (cB 32 key)] w fun e w' => e = .returned (.agg (cB 752 kc)) ∧ Below w.heap.size w w')
    (A1 A2 : Option Addr) (c1 c2 : Nat) (l1 l2 : List Int) (w : World) (h1 : Txt w A1 c1 l1) (h2 : Txt w A2 c2 l2) (n : Nat) (hn : l2.length = n + 16) (hs1 : l1.length ≤ 65536) (hs2 : n ≤ 65536)
    (d : Bool) (hd : d = eq16 (tagF (E (ctr nonce 1)) (ghash (blkW (E z16)) l1 (l2.take n))) (chunk l2 n)) :
    Calls Try.prog 15 #[.agg (cB 32 key), .agg (cB 12 nonce), .slice A1 l1.length c1, .slice A2 l2.length c2] w fun e w' =>
      ∃ v, e = .returned (.tuple #[v, .int .i64 (if d = true then 0 else 60)]) ∧ Row.Is w' w.heap.size v (if d = true then bodyL E nonce (l2.take n) else []) ∧ Below w.heap.size w w' := by
  obtain ⟨ad, rfl, _⟩ := txt_cell h2 0 (by omega)
  have e1 : (w.alloc (.cells (cB 32 key) 22)).heap.size = w.heap.size + 1 := by simp
  have HK0 := Lib.hid ((Blk.Is.new w (cB 32 key) 22).alloc (.cells (cB 12 nonce) 23))
  have HN0 := Lib.hid (Blk.Is.new (w.alloc (.cells (cB 32 key) 22)) (cB 12 nonce) 23)
  rw [e1] at HN0
  have HB0 := Lib.hid (((Below.refl _ w).alloc (Nat.le_refl _) (.cells (cB 32 key) 22)).alloc (by omega) (.cells (cB 12 nonce) 23))
  have HT1 : Hid (∀ v : World, Below w.heap.size w v → Txt v A1 c1 l1) := fun v hb => h1.below hb
  have HT2 : Hid (∀ v : World, Below w.heap.size w v → Txt v (some ad) c2 l2) := fun v hb => h2.below hb
  have HT2W := Lib.hid h2
  have HTL : Hid ((l2.take n).length = n) := by show (l2.take n).length = n; rw [List.length_take]; omega
  have HT2N := Lib.hid (h2.take n (by omega))
  have HTB : Hid (∀ v : World, Below w.heap.size w v → Txt v (some ad) c2 (l2.take n)) := fun v hb => (h2.take n (by omega)).below hb
  have HD := Lib.hid hd
  have hs : IntKind.i64.wrap ((l2.length : Int) - 16) = (n : Int) := by rw [i64_w, show (l2.length : Int) - 16 = (n : Int) by omega]; unfold wrap64; omega
  have hle := h2.le
  have hat : ∀ W, (Instr.arrayAt 37 (.slice (some (ad.add n)) 16 (c2 - n))).run Try.prog W = .ok (.pointer (some (ad.add n))) W := fun W => run_arrayAt W 37 _ 16 _ 16 _ Try.underlying37 (Nat.le_refl _)
  have g0 : ¬ (n : Int) < 0 := by omega
  have hcn : ¬ c2 = n := by omega
  have hln : l2.length - n = 16 := by omega
  have hnc : n ≤ c2 := by omega
  have hnl : n ≤ l2.length := by omega
  have HNN := Lib.hid hn
  clear e1 h1 h2 hd hn
  have hzk := zeroKey53
  have g1 : ¬ (l1.length : Int) > 65536 := by omega
  have g2 : ¬ (n : Int) > 65536 := by omega
  have lk := Blk.load_row HK0.out (P := Try.prog) (t := 22) Try.underlying22 rfl (by rw [cB_size]; kernel_rfl)
  go_enter Try.func15, Try.ntmps15
  go_wp2_with fail
  clear lk g0 g1 g2
  generalize (w.alloc (.cells (cB 32 key) 22)).alloc (.cells (cB 12 nonce) 23) = w0 at *
  refine (hX w0).mono ?_
  rintro e w1 ⟨rfl, hb⟩
  generalize hg : w.heap.size = g at *
  have HG := Lib.hid hg
  clear hg
  have HN1 := Lib.hid (HN0.out.below hb HN0.out.lt)
  have HB1 := Lib.hid (HB0.out.trans (hb.mono (by have := HN0.out.lt; omega)))
  clear hb HK0 HN0 HB0
  have hst := st53_new w1 kc
  have HK2 := Lib.hid (Blk.Is.new w1 (cB 752 kc) 53)
  have HN2 := Lib.hid (HN1.out.alloc (.cells (cB 752 kc) 53))
  have HB2 := Lib.hid (HB1.out.alloc (by have := HN1.out.lt; omega) (.cells (cB 752 kc) 53))
  have HGK := Lib.hid (show g + 1 < w1.heap.size from HN1.out.lt)
  clear HN1 HB1
  have lk := Blk.load_row HK2.out (P := Try.prog) (t := 53) Try.underlying53 rfl (by rw [cB_size]; kernel_rfl)
  have ln := Blk.load_row HN2.out (P := Try.prog) (t := 23) Try.underlying23 rfl (by rw [cB_size]; kernel_rfl)
  go_wp2_with fail
  clear hst lk ln hzk
  generalize w1.alloc (.cells (cB 752 kc) 53) = w2 at *
  generalize w1.heap.size = gk0 at *
  refine (stream_calls kc nonce w2).mono ?_
  rintro e w3 ⟨gn, gc, gk, rfl, hS, hgn, hgc, hgk, hb⟩
  unfold strV
  have HS3 := Lib.hid hS
  have HK3 := Lib.hid (HK2.out.below hb HK2.out.lt)
  have HB3 := Lib.hid (HB2.out.trans (hb.mono (by have := HK2.out.lt; have := HGK.out; omega)))
  have HNE := Lib.hid (show gk0 < gn ∧ gk0 < gc from ⟨Nat.lt_of_lt_of_le HK2.out.lt hgn, Nat.lt_of_lt_of_le HK2.out.lt hgc⟩)
  clear hS hgn hgc hgk hb HN2 HK2 HB2
  go_wp2_with fail
  -- region 8
  refine start_ (n := 14) (S := fun w' => (Blk.ld 53 (.pointer (some ⟨gk0, 0, none⟩))).run Try.prog w' = .ok (.agg (cB 752 kc)) w' ∧ (Blk.ld 37 (.pointer (some (ad.add n)))).run Try.prog w' = .ok (.agg (cB 16 (chunk l2 n))) w') (ds := []) #[false, false, false, false, false, false, false, false, false, false, false, false, false, false] (by kernel_rfl) rfl rfl ⟨(Blk.load_row HK3.out.drew (P := Try.prog) (t := 53) Try.underlying53 rfl (by rw [cB_size]; kernel_rfl)), (tail_ld (HT2.out _ HB3.out.drew) n HNN.out)⟩ (fun hHeld => ?_)
  have HK4 := Lib.hid HK3.out.drew
  have HB4 := Lib.hid HB3.out.drew
  have HS4 : Hid (Str w3.drew gn gc gk kc nonce 0) := Lib.hid (HS3.out.below (Below.refl _ w3).drew)
  clear HK3 HB3 HS3
  generalize w3.drew = w4 at *
  refine pure_ (i := 1) (N := some 33) (v := ?_) (a' := ?_) #[false, true, false, false, false, false, false, false, false, false, false, false, false, false] rfl rfl (by kernel_rfl) (fun _ _ _ h => h) (Or.inl ⟨by rfl, ?_⟩) ?_ ?_
  rotate_left
  · intro w'
    go_simp
    with_reducible rfl
  rotate_left
  · simp only [Act.put, List.setIfInBounds_toArray, List.set_cons_zero, List.set_cons_succ, i64_w, i32_w]
    rfl
  refine pure_ (i := 3) (N := some 35) (v := ?_) (a' := ?_) #[false, true, false, true, false, false, false, false, false, false, false, false, false, false] rfl rfl (by kernel_rfl) (fun _ _ _ h => h) (Or.inl ⟨by rfl, ?_⟩) ?_ ?_
  rotate_left
  · intro w'
    go_simp
    with_reducible rfl
  rotate_left
  · simp only [Act.put, List.setIfInBounds_toArray, List.set_cons_zero, List.set_cons_succ, i64_w, i32_w]
    rfl
  refine pure_ (i := 4) (N := some 36) (v := ?_) (a' := ?_) #[false, true, false, true, true, false, false, false, false, false, false, false, false, false] rfl rfl (by kernel_rfl) (fun _ _ _ h => h) (Or.inl ⟨by rfl, ?_⟩) ?_ ?_
  rotate_left
  · intro w'
    go_simp
    with_reducible rfl
  rotate_left
  · simp only [Act.put, List.setIfInBounds_toArray, List.set_cons_zero, List.set_cons_succ, i64_w, i32_w]
    rfl
  refine pure_ (i := 5) (N := some 37) (v := ?_) (a' := ?_) #[false, true, false, true, true, true, false, false, false, false, false, false, false, false] rfl rfl (by kernel_rfl) (fun _ _ _ h => h) (Or.inl ⟨by rfl, ?_⟩) ?_ ?_
  rotate_left
  · intro w'
    go_simp
    with_reducible rfl
  rotate_left
  · simp only [Act.put, List.setIfInBounds_toArray, List.set_cons_zero, List.set_cons_succ, i64_w, i32_w]
    rfl
  refine pure_ (i := 6) (N := some 38) (v := ?_) (a' := ?_) #[false, true, false, true, true, true, true, false, false, false, false, false, false, false] rfl rfl (by kernel_rfl) (fun _ _ _ h => h) (Or.inl ⟨by rfl, ?_⟩) ?_ ?_
  rotate_left
  · intro w'
    go_simp
    with_reducible rfl
  rotate_left
  · simp only [Act.put, List.setIfInBounds_toArray, List.set_cons_zero, List.set_cons_succ, i64_w, i32_w]
    rfl
  refine pure_ (i := 8) (N := some 40) (v := ?_) (a' := ?_) #[false, true, false, true, true, true, true, false, true, false, false, false, false, false] rfl rfl (by kernel_rfl) (fun _ _ _ h => h) (Or.inl ⟨by rfl, ?_⟩) ?_ ?_
  rotate_left
  · intro w'
    go_simp
    with_reducible rfl
  rotate_left
  · simp only [Act.put, List.setIfInBounds_toArray, List.set_cons_zero, List.set_cons_succ, i64_w, i32_w]
    rfl
  refine pure_ (i := 9) (N := some 41) (v := ?_) (a' := ?_) #[false, true, false, true, true, true, true, false, true, true, false, false, false, false] rfl rfl (by kernel_rfl) (fun _ _ _ h => h) (Or.inl ⟨by rfl, ?_⟩) ?_ ?_
  rotate_left
  · intro w'
    go_simp
    with_reducible rfl
  rotate_left
  · simp only [Act.put, List.setIfInBounds_toArray, List.set_cons_zero, List.set_cons_succ, i64_w, i32_w]
    rfl
  refine pure_ (i := 10) (N := some 42) (v := ?_) (a' := ?_) #[false, true, false, true, true, true, true, false, true, true, true, false, false, false] rfl rfl (by kernel_rfl) (fun _ _ _ h => h) (Or.inl ⟨by rfl, ?_⟩) ?_ ?_
  rotate_left
  · intro w'
    go_simp
    with_reducible rfl
  rotate_left
  · simp only [Act.put, List.setIfInBounds_toArray, List.set_cons_zero, List.set_cons_succ, i64_w, i32_w]
    rfl
  refine pure_ (i := 11) (N := some 43) (v := ?_) (a' := ?_) #[false, true, false, true, true, true, true, false, true, true, true, true, false, false] rfl rfl (by kernel_rfl) (fun _ _ _ h => h) (Or.inl ⟨by rfl, ?_⟩) ?_ ?_
  rotate_left
  · intro w'
    go_simp
    with_reducible rfl
  rotate_left
  · simp only [Act.put, List.setIfInBounds_toArray, List.set_cons_zero, List.set_cons_succ, i64_w, i32_w]
    rfl
  refine take_ (i := 0) (N := some 32) (v := ?_) (a' := ?_) #[true, true, false, true, true, true, true, false, true, true, true, true, false, false] rfl rfl (by kernel_rfl) (fun _ _ _ h => h) (Or.inl ⟨by rfl, ?_⟩) hHeld ?_ ?_
  rotate_left
  · rintro w' ⟨s0, s1⟩
    go_simp
    with_reducible rfl
  rotate_left
  · simp only [Act.put, List.setIfInBounds_toArray, List.set_cons_zero, List.set_cons_succ, i64_w, i32_w]
    rfl
  refine take_ (i := 12) (N := some 44) (v := ?_) (a' := ?_) #[true, true, false, true, true, true, true, false, true, true, true, true, true, false] rfl rfl (by kernel_rfl) (fun _ _ _ h => h) (Or.inl ⟨by rfl, ?_⟩) hHeld ?_ ?_
  rotate_left
  · rintro w' ⟨s0, s1⟩
    go_simp
    with_reducible rfl
  rotate_left
  · simp only [Act.put, List.setIfInBounds_toArray, List.set_cons_zero, List.set_cons_succ, i64_w, i32_w]
    rfl
  refine one_ (i := 2) (N := some 34) #[true, true, true, true, true, true, true, false, true, true, true, true, true, false] rfl rfl (by kernel_rfl) (by decide) (fun K hK => ?_)
  refine goesC_ Try.func34 (by kernel_rfl) rfl (by rfl) rfl rfl (by rfl) ?_
  with_reducible refine (next_calls gn gc gk kc nonce E hE 0 (by decide) w4 HS4.out).mono ?_
  rintro e w5 ⟨rfl, hS5, hW5⟩
  refine ⟨_, rfl, ?_⟩
  have HK5 := Lib.hid (hW5.is HK4.out (by have := HNE.out; omega) (by have := HNE.out; omega))
  have HB5 := Lib.hid (HB4.out.trans (hW5.below g (by have := HNE.out; have := HGK.out; omega) (by have := HNE.out; have := HGK.out; omega) (by have := HK4.out.lt; have := HGK.out; omega)))
  have HS5 := Lib.hid hS5
  clear hS5 hW5 HS4 HK4 HB4
  obtain ⟨f1, hf1⟩ : ∃ f1, f1 = E (ctr nonce (0 + 1)) := ⟨_, rfl⟩
  rw [← hf1]
  have HF1 := Lib.hid hf1
  clear hf1
  refine hK.out _ _ ⟨(Blk.load_row HK5.out (P := Try.prog) (t := 53) Try.underlying53 rfl (by rw [cB_size]; kernel_rfl)), (tail_ld (HT2.out _ HB5.out) n HNN.out)⟩ (fun hHeld => ?_)
  clear hK K
  refine norm_ (a' := ?_) ?_ ?_
  rotate_left
  · show Act.put _ (some 34) _ = _
    simp only [Act.put, List.setIfInBounds_toArray, List.set_cons_zero, List.set_cons_succ, i64_w, i32_w]
    rfl
  refine one_ (i := 7) (N := some 39) #[true, true, true, true, true, true, true, true, true, true, true, true, true, false] rfl rfl (by kernel_rfl) (by decide) (fun K hK => ?_)
  refine goes_ Try.func25 (by kernel_rfl) rfl #[.agg (cB 752 kc), .agg (cB 16 f1), .slice A1 l1.length c1, .slice (some ad) n c2] (by rfl) rfl rfl (by simp only [List.map_toArray, List.map_cons, List.map_nil]; rfl) ?_
  have htag := tag_calls kc E hE f1 A1 (some ad) c1 c2 l1 (l2.take n) w5 (HT1.out w5 HB5.out) (HTB.out w5 HB5.out)
  rw [HTL.out] at htag
  with_reducible refine htag.mono ?_
  rintro e w6 ⟨rfl, hb⟩
  refine ⟨_, rfl, ?_⟩
  have HK6 := Lib.hid (HK5.out.below hb HK5.out.lt)
  have HB6 := Lib.hid (HB5.out.trans (hb.mono (by have := HK5.out.lt; have := HGK.out; omega)))
  have HS6 := Lib.hid (HS5.out.below hb)
  clear hb htag HK5 HB5 HS5
  obtain ⟨tg, htg⟩ : ∃ tg, tg = tagF f1 (ghash (blkW (E z16)) l1 (l2.take n)) := ⟨_, rfl⟩
  rw [← htg]
  have heq : (!eq16 tg (chunk l2 n)) = !d := by rw [htg, HF1.out, HD.out]
  clear htg
  refine hK.out _ _ ⟨(Blk.load_row HK6.out (P := Try.prog) (t := 53) Try.underlying53 rfl (by rw [cB_size]; kernel_rfl)), (tail_ld (HT2.out _ HB6.out) n HNN.out)⟩ (fun hHeld => ?_)
  clear hK K
  refine norm_ (a' := ?_) ?_ ?_
  rotate_left
  · show Act.put _ (some 39) _ = _
    simp only [Act.put, List.setIfInBounds_toArray, List.set_cons_zero, List.set_cons_succ, i64_w, i32_w]
    rfl
  refine pure_ (i := 13) (N := some 45) (v := ?_) (a' := ?_) #[true, true, true, true, true, true, true, true, true, true, true, true, true, true] rfl rfl (by kernel_rfl) (fun _ _ _ h => h) (Or.inl ⟨by rfl, ?_⟩) ?_ ?_
  rotate_left
  · intro w'
    refine (ne_op (by rfl) (by rfl) (by rfl) _).trans ?_
    rw [heq]
  rotate_left
  · simp only [Act.put, List.setIfInBounds_toArray, List.set_cons_zero, List.set_cons_succ, i64_w, i32_w]
    rfl
  refine done_ (by kernel_rfl) ?_
  -- behind it 8
  clear hat hcn hln
  cases d with
  | false =>
    have hd : (!false) = true := rfl
    go_wp2_with fail
    go_ret2
    exact ⟨_, rfl, Row.Is.nil _ _, by rw [HG.out]; exact HB6.out⟩
  | true =>
    go_wp2_with fail
    have hturn := turn_calls gn gc gk kc nonce E hE (some ad) c2 (l2.take n) 1 (by decide) w w6 HT2N.out (by rw [HG.out]; exact HB6.out) (by rw [HG.out]; have := HNE.out; have := HGK.out; omega) (by rw [HG.out]; have := HNE.out; have := HGK.out; omega) HS6.out (by rw [HTL.out]; omega)
    have HBE : Hid (outL E nonce 1 (l2.take n) (l2.take n).length = bodyL E nonce (l2.take n)) := rfl
    rw [HTL.out] at hturn HBE
    unfold strV at hturn
    refine hturn.mono ?_
    rintro e w7 ⟨v, rfl, hR, _, hW7⟩
    rw [HBE.out] at hR
    have HR7 := Lib.hid hR
    have HB7 := Lib.hid (HB6.out.trans (hW7.below g (by have := HNE.out; have := HGK.out; omega) (by have := HNE.out; have := HGK.out; omega) (by have := HK6.out.lt; have := HGK.out; omega)))
    have HG6 := Lib.hid (show g ≤ w6.heap.size by have := HK6.out.lt; have := HGK.out; omega)
    clear hturn hR hW7 HBE
    go_wp2_with fail
    go_ret2
    exact ⟨v, rfl, HR7.out.lower (by rw [HG.out]; exact HG6.out), by rw [HG.out]; exact HB7.out⟩
end Go.Proofs.Ytbebmbcjddibaaa.Gcm
