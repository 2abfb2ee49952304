/- What is said here: field.AtZero answers the value at 0 of the polynomial through the points, or the error. -/
import Derived.Test.YtglnepokollijaaPAx0
import Derived.Test.YtglnepokollijaaLagT
import Derived.Test.YtglnepokollijaaLogs
import Derived.Outline
import Derived.Lib.Hide
import Derived.BigQuiet
import Derived.Deep.QuietTactic
import Derived.LoopTactic
namespace Go.Proofs.Ytglnepokollijaa.AtZero
set_option linter.unusedVariables false
set_option linter.unusedSimpArgs false
open Go.RowKit Go.Proofs.YtglnepokollijaaW.PrintWords Go.Proofs.YtglnepokollijaaW.PrintLast Go.Proofs.YtglnepokollijaaW.PrintMore Go.Proofs.Ytglnepokollijaa.Gf Go.Proofs.Ytglnepokollijaa.Gfi Go.Proofs.Ytglnepokollijaa.Poly Go.Proofs.Ytglnepokollijaa.Tab Go.Proofs.Ytglnepokollijaa.Lag

/-- Which elements have been seen. -/
def seenA (pre : List B) : Array Value := ((List.range 256).map fun j => Value.bool (decide (BitVec.ofNat 8 j ∈ pre))).toArray
theorem seenA_size (pre : List B) : (seenA pre).size = 256 := by simp [seenA]
theorem seenA_get (pre : List B) (x : B) : (seenA pre)[x.toNat]? = some (.bool (decide (x ∈ pre))) := by
  unfold seenA
  rw [List.getElem?_toArray, List.getElem?_map, List.getElem?_range x.isLt, Option.map_some]
  simp
theorem seenA_set (pre : List B) (x : B) : (seenA pre).setIfInBounds x.toNat (.bool true) = seenA (pre ++ [x]) := by
  apply Array.ext (by simp [seenA])
  intro i h1 h2
  rw [seenA_size] at h2
  rw [Array.getElem_setIfInBounds (by rw [seenA_size]; exact h2)]
  simp only [seenA, List.getElem_toArray, List.getElem_map, List.getElem_range, List.mem_append, List.mem_singleton]
  by_cases h : x.toNat = i
  · rw [if_pos h]
    have : BitVec.ofNat 8 i = x := by rw [← h]; simp
    simp [this]
  · rw [if_neg h]
    have : BitVec.ofNat 8 i ≠ x := by
      rintro rfl
      apply h
      rw [BitVec.toNat_ofNat]
      omega
    simp [this]
theorem zero38 (w : World) : (zeroValue 61).run Try.prog w = .ok (.agg (seenA [])) w := by kernel_rfl

theorem ld40 (x : Value) : Instr.loadAt 67 x = Blk.ld 67 x := rfl
theorem ld41 (x : Value) : Instr.loadAt 68 x = Blk.ld 68 x := rfl
theorem st40 (x v : Value) : Instr.storeAt 67 x v = Blk.st 67 x v := rfl
theorem st41 (x v : Value) : Instr.storeAt 68 x v = Blk.st 68 x v := rfl
attribute [local go_sem ↓] ld40 ld41 st40 st41

set_option maxRecDepth 100000 in
theorem none_calls (n c m d : Nat) (A0 A1 : Option Addr) (hn : n ≤ 9223372036854775807) (hm : m ≤ 9223372036854775807) (h : n = 0 ∨ n ≠ m) (w : World) :
    Calls Try.prog 39 #[.slice A0 n c, .slice A1 m d] w fun e w' => e = .returned (.tuple #[.int .u8 0, .int .i64 31]) ∧ Below w.heap.size w w' := by
  have hz := zero38
  by_cases h0 : n = 0
  · subst h0
    go_enter Try.func39, Try.ntmps39
    go_wp2
    go_ret2
    exact ⟨rfl, (Below.refl _ _).alloc (Nat.le_refl _) _⟩
  · have h1 : n ≠ m := by omega
    have c0 : ((n : Int) == 0) = false := by simpa using h0
    have c1 : ((n : Int) != (m : Int)) = true := by simpa using (fun e => h1 (by omega))
    have c2 : (n != m) = true := by simpa using h1
    clear h h0 h1
    go_enter Try.func39, Try.ntmps39
    go_wp2
    go_ret2
    exact ⟨rfl, (Below.refl _ _).alloc (Nat.le_refl _) _⟩

/-- What is read at a place. -/
theorem reads_at {w : World} {A : Option Addr} {l : List B} (h : Kd.C (Kd.int .u8) w A (ints l).length (ints l)) (hl : 0 < l.length) : ∃ ad, A = some ad ∧ ∀ k, k < l.length → w.cell? (ad.add k) = some (.int .u8 (ofB (l.getD k 0#8))) := by
  obtain ⟨ad, e, hc⟩ := h.2.2 (by rw [ints_length]; exact hl)
  refine ⟨ad, e, fun k hk => ?_⟩
  have hg : (ints l)[k]? = some (ofB (l.getD k 0#8)) := by
    rw [ints, List.getElem?_map, List.getElem?_eq_getElem hk, Option.map_some, List.getD_eq_getElem?_getD, List.getElem?_eq_getElem hk]
    rfl
  obtain ⟨c, h1, h2, h3⟩ := hc k _ hg
  have hcs : c = [Value.int .u8 (ofB (l.getD k 0#8))] := h2
  subst hcs
  have h4 : w.cell? (ad.add (k * 1 + 0)) = some (Value.int .u8 (ofB (l.getD k 0#8))) := h3 0 _ rfl
  rwa [Nat.mul_one, Nat.add_zero] at h4

set_option maxRecDepth 100000 in
set_option maxHeartbeats 4000000 in
theorem bad_calls (xs : List B) (c d : Nat) (ad : Addr) (A1 : Option Addr) (hl : 0 < xs.length) (hn : xs.length ≤ 9223372036854775807) (w : World) (hx : ∀ k, k < xs.length → w.cell? (ad.add k) = some (.int .u8 (ofB (xs.getD k 0#8)))) (hbad : ¬ ok xs) :
    Calls Try.prog 39 #[.slice (some ad) xs.length c, .slice A1 xs.length d] w fun e w' => e = .returned (.tuple #[.int .u8 0, .int .i64 31]) ∧ Below w.heap.size w w' := by
  have hz := zero38
  have HX := Lib.hid hx
  have HB := Lib.hid hbad
  have c0 : ((xs.length : Int) == 0) = false := beq_eq_false_iff_ne.mpr (by omega)
  clear hx hbad
  obtain ⟨n, Hn⟩ : ∃ n, Hid (n = xs.length) := ⟨_, rfl⟩
  rw [← Hn.out] at c0 hl hn ⊢
  go_enter Try.func39, Try.ntmps39
  go_wp2
  go_loopw [28] (fun v28 wr => ∃ k : Nat, k ≤ n ∧ v28 = .int .i64 (k : Int) ∧ Hid (ok (xs.take k)) ∧ Hid (Blk.Is wr w.heap.size (seenA (xs.take k)) 61) ∧ Hid (Below w.heap.size w wr)) (fun v28 _ => n - (intOf v28).toNat)
  case atStart => exact ⟨0, by omega, rfl, ok_nil, Blk.Is.new _ _ _, (Below.refl _ _).alloc (Nat.le_refl _) _⟩
  case round =>
    obtain ⟨k, hk, rfl, HO, HS, HW⟩ := hrel
    by_cases hlt : k < n
    · have hcell := (HW.out.cell (World.block_lt_of_cell? _ _ (HX.out k (by rw [← Hn.out]; exact hlt)))).trans (HX.out k (by rw [← Hn.out]; exact hlt))
      have hsn := take_snoc xs k (by rw [← Hn.out]; exact hlt)
      have hge := seenA_get (xs.take k) (xs.getD k 0#8)
      have hse := seenA_set (xs.take k) (xs.getD k 0#8)
      have hok := ok_snoc (xs.take k) (xs.getD k 0#8)
      rw [← hsn] at hse hok
      generalize xs.getD k 0#8 = x at *
      have hs := (HS.out.cell x.toNat).trans hge
      have hf := HS.out.free x.toNat
      have Hse := Lib.hid hse
      have Hok := Lib.hid hok
      have HR := ofB_range x
      have hr1 := HR.1
      have hr2 := HR.2
      have ex : x.toNat = (ofB x).toNat := by simp [ofB]
      rw [ex] at hs hf
      clear hsn hge hse hok HR ex
      by_cases hx0 : x = 0#8
      · subst hx0
        have hz0 : (ofB 0#8 == 0) = true := rfl
        go_wp2
        go_ret2
        exact ⟨rfl, HW.out⟩
      · have hz0 : (ofB x == 0) = false := beq_eq_false_iff_ne.mpr (fun h => hx0 (ofB_eq_zero.1 h))
        by_cases hm : x ∈ xs.take k
        · rw [decide_eq_true hm] at hs
          go_wp2
          go_ret2
          exact ⟨rfl, HW.out⟩
        · rw [decide_eq_false hm] at hs
          have HO' : Hid (ok (xs.take (k + 1))) := Hok.out.mpr ⟨HO.out, hx0, hm⟩
          have HM := Lib.hid hm
          have HX0 := Lib.hid hx0
          clear hm hx0
          go_wp2
          go_roundw
          case rel => exact ⟨k + 1, by omega, by go_num, HO', by rw [← Hse.out]; exact HS.out.set _ _, HW.out.setCell (Nat.le_refl _) _⟩
          case measure => simp [intOf]; omega
    · obtain rfl : k = n := by omega
      exact absurd (by have := HO.out; rw [Hn.out, List.take_length] at this; exact this) HB.out

/-- The tables, copied into two new variables. -/
theorem laid {w0 w1 : World} (hB : Below w0.heap.size w0 w1) : ∃ w2 w3 : World,
    Sem.run Try.prog (Blk.st 67 (.pointer (some ⟨w1.heap.size, 0, none⟩)) (.agg LT)) ((w1.alloc (.cells zlog 67)).alloc (.cells zexp 68)) = .ok () w2 ∧
    Sem.run Try.prog (Blk.st 68 (.pointer (some ⟨w1.heap.size + 1, 0, none⟩)) (.agg ET)) w2 = .ok () w3 ∧
    Blk.Is w3 w1.heap.size LT 67 ∧ Blk.Is w3 (w1.heap.size + 1) ET 68 ∧ Below w0.heap.size w0 w3 := by
  have hk0 : Blk.Is ((w1.alloc (.cells zlog 67)).alloc (.cells zexp 68)) w1.heap.size zlog 67 := (Blk.Is.new w1 zlog _).alloc _
  have hk1 : Blk.Is ((w1.alloc (.cells zlog 67)).alloc (.cells zexp 68)) (w1.heap.size + 1) zexp 68 := by
    have := Blk.Is.new (w1.alloc (.cells zlog 67)) zexp 68
    rwa [World.size_alloc] at this
  have hB2 : Below w0.heap.size w0 ((w1.alloc (.cells zlog 67)).alloc (.cells zexp 68)) := (hB.alloc hB.size _).alloc (by have := hB.size; simp; omega) _
  have sl := Blk.store_row LT hk0 (P := Try.prog) (t := 67) (by rw [LT_size]; kernel_rfl) (by rw [LT_size]; simp [zlog]) LT_one
  have g0 := hk0.setRow LT
  have g1 : Blk.Is (((w1.alloc (.cells zlog 67)).alloc (.cells zexp 68)).setRow w1.heap.size LT) (w1.heap.size + 1) zexp 68 := (setRow_other _ _ _ _ (by omega)).trans hk1
  have hB3 := Blk.below_setRow hB2 (b := w1.heap.size) hB.size LT
  have se := Blk.store_row ET g1 (P := Try.prog) (t := 68) (by rw [ET_size]; kernel_rfl) (by rw [ET_size]; simp [zexp]) ET_one
  exact ⟨_, _, sl, se, (setRow_other _ _ _ _ (by omega)).trans g0, g1.setRow ET, Blk.below_setRow hB3 (b := w1.heap.size + 1) (by have := hB.size; omega) ET⟩

set_option maxRecDepth 100000 in
set_option maxHeartbeats 8000000 in
theorem good_calls (xs ys : List B) (c d : Nat) (ad bd : Addr) (hl : 0 < xs.length) (hn : xs.length ≤ 1000000) (w : World)
    (hx : ∀ k, k < xs.length → w.cell? (ad.add k) = some (.int .u8 (ofB (xs.getD k 0#8)))) (hy : ∀ k, k < xs.length → w.cell? (bd.add k) = some (.int .u8 (ofB (ys.getD k 0#8)))) (hok : ok xs) :
    Calls Try.prog 39 #[.slice (some ad) xs.length c, .slice (some bd) xs.length d] w fun e w' => e = .returned (.tuple #[.int .u8 (ofB (atZero xs ys)), .int .i64 0]) ∧ Below w.heap.size w w' := by
  have hz := zero38
  have hz0 := Logs.zero40
  have hz1 := Logs.zero41
  have HX := Lib.hid hx
  have HY := Lib.hid hy
  have HK := Lib.hid hok
  have c0 : ((xs.length : Int) == 0) = false := beq_eq_false_iff_ne.mpr (by omega)
  clear hx hy hok
  obtain ⟨n, Hn⟩ : ∃ n, Hid (n = xs.length) := ⟨_, rfl⟩
  rw [← Hn.out] at c0 hl hn ⊢
  obtain ⟨z, Hz⟩ : ∃ z, Hid (z = atZero xs ys) := ⟨_, rfl⟩
  rw [← Hz.out]
  go_enter Try.func39, Try.ntmps39
  go_wp2
  go_loopw [4, 28] (fun v4 v28 wr => ∃ k : Nat, k ≤ n ∧ v4 = .int .u8 0 ∧ v28 = .int .i64 (k : Int) ∧ Hid (Blk.Is wr w.heap.size (seenA (xs.take k)) 61) ∧ Hid (Below w.heap.size w wr)) (fun _ v28 _ => n - (intOf v28).toNat)
  case atStart => exact ⟨0, by omega, rfl, rfl, Blk.Is.new _ _ _, (Below.refl _ _).alloc (Nat.le_refl _) _⟩
  case round =>
    obtain ⟨k, hk, rfl, rfl, HS, HW⟩ := hrel
    by_cases hlt : k < n
    · have hcell := (HW.out.cell (World.block_lt_of_cell? _ _ (HX.out k (by rw [← Hn.out]; exact hlt)))).trans (HX.out k (by rw [← Hn.out]; exact hlt))
      have hsn := take_snoc xs k (by rw [← Hn.out]; exact hlt)
      have hge := seenA_get (xs.take k) (xs.getD k 0#8)
      have hse := seenA_set (xs.take k) (xs.getD k 0#8)
      have hok := (ok_snoc (xs.take k) (xs.getD k 0#8)).mp (by rw [← hsn]; exact ok_take HK.out _)
      rw [← hsn] at hse
      generalize xs.getD k 0#8 = x at *
      have hs := (HS.out.cell x.toNat).trans hge
      have hf := HS.out.free x.toNat
      have Hse := Lib.hid hse
      have HR := ofB_range x
      have hr1 := HR.1
      have hr2 := HR.2
      have ex : x.toNat = (ofB x).toNat := by simp [ofB]
      rw [ex] at hs hf
      have hxz : (ofB x == 0) = false := beq_eq_false_iff_ne.mpr (fun h => hok.2.1 (ofB_eq_zero.1 h))
      rw [decide_eq_false hok.2.2] at hs
      clear hsn hge hse hok HR ex
      go_wp2
      go_roundw
      case rel => exact ⟨k + 1, by omega, rfl, by go_num, by rw [← Hse.out]; exact HS.out.set _ _, HW.out.setCell (Nat.le_refl _) _⟩
      case measure => simp [intOf]; omega
    · obtain rfl : n = k := by omega
      clear hlt hk
      go_wp2_with fail
      refine (Logs.logs_calls _).mono ?_
      rintro e w1 ⟨rfl, hB1⟩
      obtain ⟨w2, w3, sl, se, f0, f1, hB3⟩ := laid (below_step HW.out hB1)
      have hB := Lib.hid hB3
      have F0 := Lib.hid f0
      have F1 := Lib.hid f1
      clear hB3 f0 f1 HS HW hB1
      go_wp2
      clear sl se hz hz0 hz1
      go_loopw [4, 48] (fun v4 v48 W => ∃ i m : Nat, i ≤ n ∧ v4 = .int .u8 (ofB (acc xs ys i)) ∧ v48 = .int .i64 (i : Int) ∧ W = w3.drewN m) (fun _ v48 _ => n - (intOf v48).toNat)
      case atStart => exact ⟨0, 0, by omega, rfl, rfl, rfl⟩
      case round =>
        obtain ⟨i, m, hi, rfl, rfl, rfl⟩ := hrel
        by_cases hlt : i < n
        · have hcx := (hB.out.cell (World.block_lt_of_cell? _ _ (HX.out i (by rw [← Hn.out]; exact hlt)))).trans (HX.out i (by rw [← Hn.out]; exact hlt))
          have hcy := (hB.out.cell (World.block_lt_of_cell? _ _ (HY.out i (by rw [← Hn.out]; exact hlt)))).trans (HY.out i (by rw [← Hn.out]; exact hlt))
          have hac : acc xs ys (i + 1) = acc xs ys i ^^^ if ys.getD i 0#8 = 0#8 then 0#8 else p3 (inn xs ys i n % 255) := by rw [acc, Hn.out]
          have hi0 : inn xs ys i 0 = lg (ys.getD i 0#8) := rfl
          have hle := inn_le xs ys i
          have hst : ∀ k, k ≠ i → inn xs ys i (k + 1) = inn xs ys i k + (lg (xs.getD k 0#8) + 255 - lg (xs.getD k 0#8 ^^^ xs.getD i 0#8)) := by intro k hk; rw [inn, if_neg hk]
          have hse : inn xs ys i (i + 1) = inn xs ys i i := by rw [inn, if_pos rfl]; rfl
          generalize ys.getD i 0#8 = y at *
          generalize xs.getD i 0#8 = x at *
          have Hac := Lib.hid hac
          have Hi0 := Lib.hid hi0
          have Hle := Lib.hid hle
          have Hst := Lib.hid hst
          have Hse := Lib.hid hse
          clear hac hi0 hle hst hse
          have rx := ofB_range x
          have rx1 := rx.1
          have rx2 := rx.2
          have ry := ofB_range y
          have ry1 := ry.1
          have ry2 := ry.2
          clear rx ry
          by_cases hy0 : y = 0#8
          · have hyz : (ofB y == 0) = true := beq_iff_eq.mpr (by rw [hy0]; rfl)
            have ha : Hid (acc xs ys (i + 1) = acc xs ys i) := by rw [Hac.out, if_pos hy0, BitVec.xor_zero]; rfl
            clear hy0
            go_wp2
            go_roundw
            case rel => exact ⟨i + 1, m, by omega, by rw [ha.out], by go_num, rfl⟩
            case measure => simp [intOf]; omega
          · have hyz : (ofB y == 0) = false := beq_eq_false_iff_ne.mpr (fun h => hy0 (ofB_eq_zero.1 h))
            have ha : Hid (acc xs ys (i + 1) = acc xs ys i ^^^ p3 (inn xs ys i n % 255)) := by rw [Hac.out, if_neg hy0]; rfl
            clear hy0
            have hl0 := (F0.out.cell _).trans (LT_cell (ofB y) ry1 ry2).1
            go_wp2
            go_loopw [13, 66] (fun v13 v66 W => ∃ k m : Nat, k ≤ n ∧ v13 = .int .i64 (inn xs ys i k : Int) ∧ v66 = .int .i64 (k : Int) ∧ W = w3.drewN m) (fun _ v66 _ => n - (intOf v66).toNat)
            case atStart => exact ⟨0, m, by omega, by rw [Hi0.out]; simp [logI, ofB], rfl, rfl⟩
            case round =>
              obtain ⟨k, m, hk, rfl, rfl, rfl⟩ := hrel
              have hlk := Hle.out k
              by_cases hkn : k < n
              · have hck := (hB.out.cell (World.block_lt_of_cell? _ _ (HX.out k (by rw [← Hn.out]; exact hkn)))).trans (HX.out k (by rw [← Hn.out]; exact hkn))
                have hsk := Hst.out k
                generalize xs.getD k 0#8 = z at *
                have Hsk := Lib.hid hsk
                clear hsk
                have rz := ofB_range z
                have rz1 := rz.1
                have rz2 := rz.2
                clear rz
                by_cases hki : k = i
                · subst hki
                  go_wp2
                  go_roundw
                  case rel => exact ⟨k + 1, m, by omega, by rw [Hse.out], by go_num, rfl⟩
                  case measure => simp [intOf]; omega
                · have hki2 : ((k : Int) != (i : Int)) = true := by rw [bne_iff_ne]; omega
                  have HE := Lib.hid (Hsk.out hki)
                  have la := LT_cell (ofB z) rz1 rz2
                  have hA := (F0.out.cell _).trans la.1
                  have ha1 := la.2.1
                  have ha2 := la.2.2
                  have rX := xor_range (ofB z) (ofB x)
                  have rX1 := rX.1
                  have rX2 := rX.2
                  have lb := LT_cell _ rX1 rX2
                  have hX := (F0.out.cell _).trans lb.1
                  have hb1 := lb.2.1
                  have hb2 := lb.2.2
                  have hik : 0 ≤ (inn xs ys i k : Int) := by omega
                  have HL := Lib.hid (show logI (ofB z) = (lg z : Int) by unfold logI; rw [show BitVec.ofInt 8 (ofB z) = z from toB_ofB z])
                  have HL2 := Lib.hid (show logI (Go.bits .xor .u8 (ofB z) (ofB x)) = (lg (z ^^^ x) : Int) by rw [bits_xor]; unfold logI; rw [show BitVec.ofInt 8 (ofB (z ^^^ x)) = z ^^^ x from toB_ofB _])
                  have HG := Lib.hid (lg_lt (z ^^^ x))
                  clear la lb rX hki
                  go_wp2
                  go_quiet (fail)
                  go_wp2
                  go_roundw
                  case rel => exact ⟨k + 1, _, by omega, congrArg (Value.int .i64) (by rw [HE.out, HL.out, HL2.out]; have := HG.out; omega), by go_num, rfl⟩
                  case measure => simp [intOf]; omega
              · obtain rfl : n = k := by omega
                have le := ET_cell ((inn xs ys i n : Int) % 255) (by omega) (by omega)
                have hE := (F1.out.cell _).trans le.1
                rw [show ((inn xs ys i n : Int) % 255).toNat = inn xs ys i n % 255 by omega] at hE
                have he1 := le.2.1
                have he2 := le.2.2
                have hik : 0 ≤ (inn xs ys i n : Int) := by omega
                have HEX := Lib.hid (show expI ((inn xs ys i n : Int) % 255) = ofB (p3 (inn xs ys i n % 255)) by unfold expI ofB; rw [show ((inn xs ys i n : Int) % 255).toNat = inn xs ys i n % 255 by omega])
                clear le
                go_wp2
                go_roundw
                case rel => exact ⟨i + 1, m, by omega, by rw [HEX.out, bits_xor, ha.out], by go_num, rfl⟩
                case measure => simp [intOf]; omega
        · obtain rfl : n = i := by omega
          go_wp2
          go_ret2
          exact ⟨by rw [show z = acc xs ys n by rw [Hz.out, atZero_acc HK.out, Hn.out]]; rfl, pw_below_drewN hB.out _⟩

/-- What AtZero answers. -/
def res (xs ys : List B) : Int × Int := if xs.length = 0 ∨ xs.length ≠ ys.length ∨ ¬ ok xs then (0, 31) else (ofB (atZero xs ys), 0)
/-- AtZero, of any points. -/
theorem calls (xs ys : List B) (A0 A1 : Option Addr) (c0 c1 : Nat) (w : World) (hr0 : Kd.C (Kd.int .u8) w A0 (ints xs).length (ints xs)) (hr1 : Kd.C (Kd.int .u8) w A1 (ints ys).length (ints ys)) (hl0 : xs.length ≤ 1000000) (hl1 : ys.length ≤ 1000000) :
    Calls Try.prog 39 #[.slice A0 (ints xs).length c0, .slice A1 (ints ys).length c1] w fun e w' => e = .returned (.tuple #[.int .u8 (res xs ys).1, .int .i64 (res xs ys).2]) ∧ Below w.heap.size w w' := by
  rw [ints_length, ints_length]
  by_cases h : xs.length = 0 ∨ xs.length ≠ ys.length
  · have e : res xs ys = (0, 31) := if_pos (by rcases h with h | h; exact .inl h; exact .inr (.inl h))
    rw [e]
    exact none_calls xs.length c0 ys.length c1 A0 A1 (by omega) (by omega) h w
  · have hl : 0 < xs.length := by omega
    have hxy : ys.length = xs.length := by omega
    obtain ⟨ad, rfl, hx⟩ := reads_at hr0 hl
    obtain ⟨bd, rfl, hy⟩ := reads_at hr1 (by omega)
    rw [hxy] at hy ⊢
    by_cases ho : ok xs
    · have e : res xs ys = (ofB (atZero xs ys), 0) := if_neg (by rintro (h1 | h1 | h1); exact h (.inl h1); exact h (.inr h1); exact h1 ho)
      rw [e]
      exact good_calls xs ys c0 c1 ad bd hl hl0 w hx hy ho
    · have e : res xs ys = (0, 31) := if_pos (.inr (.inr ho))
      rw [e]
      exact bad_calls xs c0 c1 ad (some bd) hl (by omega) w hx ho
/-- The same, the lengths spelled otherwise. -/
theorem calls_n (xs ys : List B) (A0 A1 : Option Addr) (n m c0 c1 : Nat) (w : World) (en : n = (ints xs).length) (em : m = (ints ys).length) (hr0 : Kd.C (Kd.int .u8) w A0 n (ints xs)) (hr1 : Kd.C (Kd.int .u8) w A1 m (ints ys)) (hl0 : xs.length ≤ 1000000) (hl1 : ys.length ≤ 1000000) :
    Calls Try.prog 39 #[.slice A0 n c0, .slice A1 m c1] w fun e w' => e = .returned (.tuple #[.int .u8 (res xs ys).1, .int .i64 (res xs ys).2]) ∧ Below w.heap.size w w' := by
  subst en
  subst em
  exact calls xs ys A0 A1 c0 c1 w hr0 hr1 hl0 hl1
end Go.Proofs.Ytglnepokollijaa.AtZero
