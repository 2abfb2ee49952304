/- What is said here: what path.first tells, and the five questions that tell two patterns apart. -/
import Derived.Test.YtilhpgjohpekkaaDoorProg
import Derived.Shelf.Strings.IndexAnyAll
import Derived.Shelf.Small.Strs
import Derived.Shelf.Small.Wraps
import Derived.Test.YtilhpgjohpekkaaDoorPathPure2
import Derived.Lib.Hide
namespace Go.Proofs.YtilhpgjohpekkaaDoor.PMore
set_option linter.unusedVariables false
set_option linter.unusedSimpArgs false
open Go.RowKit Go.Proofs.YtilhpgjohpekkaaDoorW.PrintWords Go.Proofs.YtilhpgjohpekkaaDoorW.PrintLast Go.Proofs.YtilhpgjohpekkaaDoorW.PrintMore

def lays153_ren : Go.Shelf.Ren := ⟨fun | 153 => 75 | 152 => 84 | 226 => 85 | 227 => 86 | 228 => 87 | 137 => 92 | 119 => 93 | 224 => 80 | 225 => 79 | 217 => 78 | 266 => 90 | n => n, fun | 9 => 9 | 3 => 3 | 4 => 4 | 5 => 5 | 21 => 21 | 117 => 78 | 116 => 77 | 0 => 0 | 46 => 71 | 124 => 84 | n => n, fun | n => n⟩
theorem lays153 : Go.Proofs.Lays.n153 Tryd.prog lays153_ren := { mixed := by kernel_rfl, f119 := Tryd.func93.trans (congrArg some (by kernel_rfl)), f137 := Tryd.func92.trans (congrArg some (by kernel_rfl)), f152 := Tryd.func84.trans (congrArg some (by kernel_rfl)), f153 := Tryd.func75.trans (congrArg some (by kernel_rfl)), f217 := Tryd.func78.trans (congrArg some (by kernel_rfl)), f224 := Tryd.func80.trans (congrArg some (by kernel_rfl)), f225 := Tryd.func79.trans (congrArg some (by kernel_rfl)), f226 := Tryd.func85.trans (congrArg some (by kernel_rfl)), f227 := Tryd.func86.trans (congrArg some (by kernel_rfl)), f228 := Tryd.func87.trans (congrArg some (by kernel_rfl)), f266 := Tryd.func90.trans (congrArg some (by kernel_rfl)), t0 := Tryd.underlying0, a0 := Tryd.isAgg0, z0 := Tryd.sizeOf0, v0 := Tryd.zeroValue0, t3 := Tryd.underlying3, a3 := Tryd.isAgg3, z3 := Tryd.sizeOf3, v3 := Tryd.zeroValue3, t4 := Tryd.underlying4, a4 := Tryd.isAgg4, z4 := Tryd.sizeOf4, v4 := Tryd.zeroValue4, t5 := Tryd.underlying5, a5 := Tryd.isAgg5, z5 := Tryd.sizeOf5, v5 := Tryd.zeroValue5, t9 := Tryd.underlying9, a9 := Tryd.isAgg9, z9 := Tryd.sizeOf9, v9 := Tryd.zeroValue9, t21 := Tryd.underlying21, a21 := Tryd.isAgg21, z21 := Tryd.sizeOf21, v21 := Tryd.zeroValue21, t46 := Tryd.underlying71, a46 := Tryd.isAgg71, z46 := Tryd.sizeOf71, v46 := Tryd.zeroValue71, t116 := Tryd.underlying77, a116 := Tryd.isAgg77, z116 := Tryd.sizeOf77, t117 := Tryd.underlying78, a117 := Tryd.isAgg78, z117 := Tryd.sizeOf78, v117 := Tryd.zeroValue78, t124 := Tryd.underlying84, a124 := Tryd.isAgg84, z124 := Tryd.sizeOf84, v124 := Tryd.zeroValue84 }
def lays106_ren : Go.Shelf.Ren := ⟨fun | 106 => 64 | 213 => 76 | 265 => 88 | n => n, fun | 9 => 9 | 3 => 3 | n => n, fun | n => n⟩
theorem lays106 : Go.Proofs.Lays.n106 Tryd.prog lays106_ren := { mixed := by kernel_rfl, f106 := Tryd.func64.trans (congrArg some (by kernel_rfl)), f213 := Tryd.func76.trans (congrArg some (by kernel_rfl)), f265 := Tryd.func88.trans (congrArg some (by kernel_rfl)), t3 := Tryd.underlying3, a3 := Tryd.isAgg3, z3 := Tryd.sizeOf3, v3 := Tryd.zeroValue3, t9 := Tryd.underlying9, a9 := Tryd.isAgg9, z9 := Tryd.sizeOf9, v9 := Tryd.zeroValue9 }
def lays122_ren : Go.Shelf.Ren := ⟨fun | 122 => 59 | 215 => 74 | n => n, fun | 3 => 3 | 4 => 4 | n => n, fun | n => n⟩
theorem lays122 : Go.Proofs.Lays.n122 Tryd.prog lays122_ren := { mixed := by kernel_rfl, f122 := Tryd.func59.trans (congrArg some (by kernel_rfl)), f215 := Tryd.func74.trans (congrArg some (by kernel_rfl)), t3 := Tryd.underlying3, a3 := Tryd.isAgg3, z3 := Tryd.sizeOf3, v3 := Tryd.zeroValue3, t4 := Tryd.underlying4, a4 := Tryd.isAgg4, z4 := Tryd.sizeOf4, v4 := Tryd.zeroValue4 }
theorem h116 : (Tryd.prog.info? (lays153_ren.t 116)).map (fun i => (i.zero, i.size)) = some (some (.agg (Array.replicate 256 (.bool false))), 256) := by kernel_rfl
/-- Every byte is below 128. -/
def Ascii (p : ByteArray) : Prop := ∀ (j : Nat) (b : UInt8), p.data.toList[j]? = some b → b.toNat < 128
def idx (p : ByteArray) : Int := Lib.indexAny p.data.toList [43, 42]
/-- Where the first wildcard stands. -/
def firstN (p : ByteArray) : Int := if 0 ≤ idx p then idx p else 129
theorem index_calls (p : ByteArray) (w : World) (hs : p.size ≤ 1000000) (ha : Ascii p) :
    Calls Tryd.prog 75 #[.string p, .string ⟨#[43, 42]⟩] w fun e w' => e = .returned (.int .i64 (idx p)) ∧ Below w.heap.size w w' :=
  Any.strings_IndexAny_laid lays153 h116 p ⟨#[43, 42]⟩ w (by omega) (by decide) ha (fun j b h => by
    have : j < 2 := by
      rcases Nat.lt_or_ge j 2 with h2 | h2
      · exact h2
      · rw [List.getElem?_eq_none (by exact h2)] at h; exact absurd h (by simp)
    rcases (show j = 0 ∨ j = 1 by omega) with rfl | rfl
    · obtain rfl : (43 : UInt8) = b := Option.some.inj h
      decide
    · obtain rfl : (42 : UInt8) = b := Option.some.inj h
      decide)
set_option maxHeartbeats 2000000 in
set_option maxRecDepth 100000 in
theorem first_calls (p : ByteArray) (w : World) (hs : p.size ≤ 1000000) (ha : Ascii p) :
    Calls Tryd.prog 60 #[.string p] w fun e w' => e = .returned (.int .i64 (firstN p)) ∧ Below w.heap.size w w' := by
  obtain ⟨r, hr⟩ : ∃ r, r = firstN p := ⟨_, rfl⟩
  rw [← hr]
  have HA := Lib.hid ha
  have HR := Lib.hid hr
  clear ha hr
  go_enter Tryd.func60, Tryd.ntmps60
  go_wp2_with fail
  refine (index_calls p _ hs HA.out).mono ?_
  rintro e w1 ⟨rfl, hb⟩
  have HB := Lib.hid hb
  clear hb
  have HR2 : Hid (r = if 0 ≤ idx p then idx p else 129) := HR.out
  clear HR
  generalize idx p = q at *
  by_cases h : 0 ≤ q
  · have HE : Hid (r = q) := by
      show _ = _
      have := HR2.out
      rwa [if_pos h] at this
    clear HR2
    go_wp2
    go_ret
    exact ⟨by rw [HE.out]; rfl, HB.out⟩
  · have HE : Hid (r = 129) := by
      show _ = _
      have := HR2.out
      rwa [if_neg h] at this
    clear HR2
    go_wp2
    go_ret
    exact ⟨by rw [HE.out]; rfl, HB.out⟩
def cnt (c : UInt8) (p : ByteArray) : Int := ((Lib.countByte p.data.toList c : Nat) : Int)
theorem cnt_eq (c : UInt8) (p : ByteArray) : cnt c p = ((p.data.toList.count c : Nat) : Int) := rfl
def q1 (a b : ByteArray) : Int := Lib.compareInt (firstN a) (firstN b)
def q2 (a b : ByteArray) : Int := cnt 42 b - cnt 42 a
def q3 (a b : ByteArray) : Int := Lib.compareInt (cnt 43 b) (cnt 43 a)
def q4 (a b : ByteArray) : Int := Lib.compareInt (a.size : Int) (b.size : Int)
def q5 (a b : ByteArray) : Int := Lib.compareBytes a.data.toList b.data.toList
theorem cmp_calls (x y : Int) (w : World) : Calls Tryd.prog 59 #[.int .i64 x, .int .i64 y] w fun e w' => e = .returned (.int .i64 (Lib.compareInt x y)) ∧ w' = w := Any.cmp_Compare_int lays122 x y w
theorem q5_calls (a b : ByteArray) (w : World) : Calls Tryd.prog 64 #[.string a, .string b] w fun e w' => e = .returned (.int .i64 (q5 a b)) ∧ w' = w := Any.strings_Compare lays106 a b w
set_option maxHeartbeats 2000000 in
set_option maxRecDepth 100000 in
theorem q1_calls (a b : ByteArray) (w : World) (h0 : a.size ≤ 1000000) (h1 : b.size ≤ 1000000) (ha : Ascii a) (hb : Ascii b) :
    Calls Tryd.prog 58 #[.string a, .string b] w fun e w' => e = .returned (.int .i64 (q1 a b)) ∧ Below w.heap.size w w' := by
  obtain ⟨r, hr⟩ : ∃ r, r = q1 a b := ⟨_, rfl⟩
  rw [← hr]
  have HA := Lib.hid ha
  have HB := Lib.hid hb
  have HR := Lib.hid hr
  clear ha hb hr
  go_enter Tryd.func58, Tryd.ntmps58
  go_wp2_with fail
  refine (first_calls a _ h0 HA.out).mono ?_
  rintro e w1 ⟨rfl, hb1⟩
  have HB1 := Lib.hid hb1
  clear hb1
  go_wp2_with fail
  refine (first_calls b _ h1 HB.out).mono ?_
  rintro e w2 ⟨rfl, hb2⟩
  have HB2 := Lib.hid (HB1.out.trans (hb2.mono HB1.out.size))
  clear hb2
  go_wp2_with fail
  refine (cmp_calls _ _ _).mono ?_
  rintro e w3 ⟨rfl, rfl⟩
  go_wp2
  go_ret
  exact ⟨by rw [HR.out]; rfl, HB2.out⟩
set_option maxHeartbeats 2000000 in
set_option maxRecDepth 100000 in
theorem q2_calls (a b : ByteArray) (w : World) (h0 : a.size ≤ 1000000) (h1 : b.size ≤ 1000000) :
    Calls Tryd.prog 61 #[.string a, .string b] w fun e w' => e = .returned (.int .i64 (q2 a b)) ∧ Below w.heap.size w w' := by
  obtain ⟨r, hr⟩ : ∃ r, r = q2 a b := ⟨_, rfl⟩
  rw [← hr]
  have HR := Lib.hid hr
  have hca := PLib.count_le 42 a
  have hcb := PLib.count_le 42 b
  clear hr
  go_enter Tryd.func61, Tryd.ntmps61
  go_wp2_with fail
  refine (PLib.count_one b 42 _).mono ?_
  rintro e w1 ⟨rfl, rfl⟩
  go_wp2_with fail
  refine (PLib.count_one a 42 _).mono ?_
  rintro e w2 ⟨rfl, rfl⟩
  have HE : Hid (r = ((Lib.countByte b.data.toList 42 : Nat) : Int) - ((Lib.countByte a.data.toList 42 : Nat) : Int)) := HR.out
  clear HR
  have hX : Lib.countByte b.data.toList 42 ≤ 1000000 := Nat.le_trans hcb h1
  have hY : Lib.countByte a.data.toList 42 ≤ 1000000 := Nat.le_trans hca h0
  generalize Lib.countByte b.data.toList 42 = X at *
  generalize Lib.countByte a.data.toList 42 = Y at *
  have hwr : IntKind.i64.wrap ((X : Int) - (Y : Int)) = (X : Int) - (Y : Int) := IntWalk.i64_in _ (by omega)
  go_wp2
  go_ret
  exact ⟨by rw [HE.out]; rfl, Below.refl _ _⟩
set_option maxHeartbeats 2000000 in
set_option maxRecDepth 100000 in
theorem q3_calls (a b : ByteArray) (w : World) (h0 : a.size ≤ 1000000) (h1 : b.size ≤ 1000000) :
    Calls Tryd.prog 62 #[.string a, .string b] w fun e w' => e = .returned (.int .i64 (q3 a b)) ∧ Below w.heap.size w w' := by
  obtain ⟨r, hr⟩ : ∃ r, r = q3 a b := ⟨_, rfl⟩
  rw [← hr]
  have HR := Lib.hid hr
  clear hr
  go_enter Tryd.func62, Tryd.ntmps62
  go_wp2_with fail
  refine (PLib.count_one b 43 _).mono ?_
  rintro e w1 ⟨rfl, rfl⟩
  go_wp2_with fail
  refine (PLib.count_one a 43 _).mono ?_
  rintro e w2 ⟨rfl, rfl⟩
  go_wp2_with fail
  refine (cmp_calls _ _ _).mono ?_
  rintro e w3 ⟨rfl, rfl⟩
  go_wp2
  go_ret
  exact ⟨by rw [HR.out]; rfl, Below.refl _ _⟩
set_option maxHeartbeats 2000000 in
set_option maxRecDepth 100000 in
theorem q4_calls (a b : ByteArray) (w : World) :
    Calls Tryd.prog 63 #[.string a, .string b] w fun e w' => e = .returned (.int .i64 (q4 a b)) ∧ Below w.heap.size w w' := by
  obtain ⟨r, hr⟩ : ∃ r, r = q4 a b := ⟨_, rfl⟩
  rw [← hr]
  have HR := Lib.hid hr
  clear hr
  go_enter Tryd.func63, Tryd.ntmps63
  go_wp2_with fail
  refine (cmp_calls _ _ _).mono ?_
  rintro e w3 ⟨rfl, rfl⟩
  go_wp2
  go_ret
  exact ⟨by rw [HR.out]; rfl, Below.refl _ _⟩
end Go.Proofs.YtilhpgjohpekkaaDoor.PMore
