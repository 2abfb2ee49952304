/- What is said here: what strings.Join tells, by the shelf's contract, laid at this program. -/
import Derived.Test.YtilhpgjohpekkaaDoorProg
import Derived.Shelf.Strings.OnBuilder
import Derived.Test.YtilhpgjohpekkaaDoorPSplit
namespace Go.Proofs.YtilhpgjohpekkaaDoor.PJoin
set_option linter.unusedVariables false
set_option linter.unusedSimpArgs false
open Go.RowKit Go.Lib Go.Proofs.YtilhpgjohpekkaaDoorW.PrintWords Go.Proofs.YtilhpgjohpekkaaDoorW.PrintLast Go.Proofs.YtilhpgjohpekkaaDoorW.PrintMore

def lays156_ren : Go.Shelf.Ren := ⟨fun | 156 => 41 | 165 => 55 | 166 => 56 | 169 => 57 | 240 => 72 | 241 => 73 | 276 => 82 | 277 => 83 | n => n, fun | 31 => 25 | 9 => 9 | 3 => 3 | 4 => 4 | 0 => 0 | 20 => 20 | 72 => 56 | 76 => 60 | 70 => 53 | 37 => 54 | 75 => 59 | 127 => 66 | 164 => 72 | 5 => 5 | 80 => 62 | n => n, fun | n => n⟩
theorem lays156 : Go.Proofs.Lays.n156 Tryd.prog lays156_ren := { mixed := by kernel_rfl, f156 := Tryd.func41.trans (congrArg some (by kernel_rfl)), f165 := Tryd.func55.trans (congrArg some (by kernel_rfl)), f166 := Tryd.func56.trans (congrArg some (by kernel_rfl)), f169 := Tryd.func57.trans (congrArg some (by kernel_rfl)), f240 := Tryd.func72.trans (congrArg some (by kernel_rfl)), f241 := Tryd.func73.trans (congrArg some (by kernel_rfl)), f276 := Tryd.func82.trans (congrArg some (by kernel_rfl)), f277 := Tryd.func83.trans (congrArg some (by kernel_rfl)), t0 := Tryd.underlying0, a0 := Tryd.isAgg0, z0 := Tryd.sizeOf0, v0 := Tryd.zeroValue0, t3 := Tryd.underlying3, a3 := Tryd.isAgg3, z3 := Tryd.sizeOf3, v3 := Tryd.zeroValue3, t4 := Tryd.underlying4, a4 := Tryd.isAgg4, z4 := Tryd.sizeOf4, v4 := Tryd.zeroValue4, t9 := Tryd.underlying9, a9 := Tryd.isAgg9, z9 := Tryd.sizeOf9, v9 := Tryd.zeroValue9, t20 := Tryd.underlying20, a20 := Tryd.isAgg20, z20 := Tryd.sizeOf20, v20 := Tryd.zeroValue20, t31 := Tryd.underlying25, a31 := Tryd.isAgg25, z31 := Tryd.sizeOf25, v31 := Tryd.zeroValue25, t37 := Tryd.underlying54, a37 := Tryd.isAgg54, z37 := Tryd.sizeOf54, v37 := Tryd.zeroValue54, t70 := Tryd.underlying53, a70 := Tryd.isAgg53, z70 := Tryd.sizeOf53, v70 := Tryd.zeroValue53, t72 := Tryd.underlying56, a72 := Tryd.isAgg56, z72 := Tryd.sizeOf56, v72 := Tryd.zeroValue56, t75 := Tryd.underlying59, a75 := Tryd.isAgg59, z75 := Tryd.sizeOf59, v75 := Tryd.zeroValue59, t76 := Tryd.underlying60, a76 := Tryd.isAgg60, z76 := Tryd.sizeOf60, v76 := Tryd.zeroValue60, t127 := Tryd.underlying66, a127 := Tryd.isAgg66, z127 := Tryd.sizeOf66, v127 := Tryd.zeroValue66, t164 := Tryd.underlying72, a164 := Tryd.isAgg72, z164 := Tryd.sizeOf72, v164 := Tryd.zeroValue72 }

theorem extra : Builder.Extra Tryd.prog lays156_ren := { sizeBuilder := by kernel_rfl, liesBuilder := by kernel_rfl, t5 := Tryd.underlying5, a5 := Tryd.isAgg5, z5 := Tryd.sizeOf5, v5 := Tryd.zeroValue5, infoByte := by kernel_rfl, cellsByte := by kernel_rfl, sizeByte := by kernel_rfl, neB5 := by decide }
/-- strings.Join. -/
def joinF (a0 : List ByteArray) (a1 : ByteArray) : Option ByteArray := if a0.length ≤ 1000000 ∧ (Lib.join (a0.map (·.data.toList)) a1.data.toList).length ≤ 1000000000 then some ⟨(Lib.join (a0.map (·.data.toList)) a1.data.toList).toArray⟩ else none
theorem joinF_calls (A0 : Option Addr) (c0 : Nat) (l0 : List ByteArray) (a1 : ByteArray) (r : ByteArray) (w : World) (hr0 : Kd.C Kd.string w A0 l0.length l0) (hc0 : l0.length ≤ c0) (h : joinF l0 a1 = some r) :
    Calls Tryd.prog 41 #[.slice A0 l0.length c0, .string a1] w fun e w' => e = .returned (.string r) ∧ Below w.heap.size w w' := by
  unfold joinF at h
  by_cases hb : l0.length ≤ 1000000 ∧ (Lib.join (l0.map (·.data.toList)) a1.data.toList).length ≤ 1000000000
  · rw [if_pos hb] at h
    obtain rfl := Option.some.inj h
    cases l0 with
    | nil => exact (Any.strings_Join_none lays156 extra A0 c0 a1 w).mono fun e w' ⟨he, hw⟩ => ⟨he, hw ▸ Below.refl _ _⟩
    | cons x l =>
      obtain ⟨ad, e0, hc⟩ := Kd.at_string hr0 0 (by omega) (by simp only [List.length_cons]; omega)
      subst e0
      obtain ⟨b, o, s⟩ := ad
      have hs : s = none := by
        unfold World.cell? at hc
        split at hc
        · cases s with
          | none => rfl
          | some s => simp [Addr.add] at hc
        · exact absurd hc (by simp)
      subst hs
      have hbk : b < w.heap.size := by
        rcases Nat.lt_or_ge b w.heap.size with h | h
        · exact h
        · unfold World.cell? at hc
          rw [show ((⟨b, o, none⟩ : Addr).add (Int.toNat 0)).block = b from rfl, Array.getElem?_eq_none h] at hc
          exact absurd hc (by simp)
      refine Any.strings_Join lays156 extra b o c0 (x :: l) a1 w (fun j y hj => ?_) hbk (Nat.le_trans hb.1 (by decide)) hc0 (Nat.le_trans hb.2 (by decide))
      obtain ⟨hjl, hjv⟩ := List.getElem?_eq_some_iff.1 hj
      obtain ⟨ad, e1, hcj⟩ := Kd.at_string hr0 (j : Int) (by omega) (by omega)
      obtain rfl := Option.some.inj e1
      rw [Int.toNat_natCast] at hcj
      have hrd : rdOf ByteArray.empty (x :: l) (j : Int) = y := by
        unfold rdOf
        rw [Int.toNat_natCast, List.getD_eq_getElem?_getD, hj]
        rfl
      rw [hrd] at hcj
      have ha : ∀ j : Nat, (⟨b, o, none⟩ : Addr).add j = ⟨b, o + j, none⟩ := by
        intro j
        unfold Addr.add
        split
        · rename_i h0; rw [h0]; rfl
        · rfl
      rw [ha] at hcj
      exact hcj
  · rw [if_neg hb] at h
    exact absurd h (by simp)
end Go.Proofs.YtilhpgjohpekkaaDoor.PJoin
