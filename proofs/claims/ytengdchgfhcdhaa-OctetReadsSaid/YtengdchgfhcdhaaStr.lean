/- What is said here: bytes as a text, and back. -/
import Derived.Test.YtengdchgfhcdhaaRow
namespace Go.Proofs.Ytengdchgfhcdhaa.Str
open Go.RowKit Go.Proofs.YtengdchgfhcdhaaW.PrintWords Go.Proofs.YtengdchgfhcdhaaW.PrintLast Go.Proofs.YtengdchgfhcdhaaW.PrintMore

/-- Bytes as a text, and back. -/
theorem bytesOf_str (l : List Int) (hl : ∀ x ∈ l, 0 ≤ x ∧ x < 256) : bytesOf (strOfNums l) = l := by
  have e2 : (strOfNums l).data.toList = l.map fun n => UInt8.ofNat n.toNat := strOfNums_data l
  unfold bytesOf
  rw [e2, List.map_map]
  have h3 : l.map ((fun b : UInt8 => (b.toNat : Int)) ∘ fun n : Int => UInt8.ofNat n.toNat) = l.map id := by
    refine List.map_congr_left (fun x hx => ?_)
    have := hl x hx
    show ((UInt8.ofNat x.toNat).toNat : Int) = x
    rw [UInt8.toNat_ofNat', Nat.mod_eq_of_lt (by omega)]
    omega
  rw [h3, List.map_id]
theorem str_bytesOf (s : ByteArray) : strOfNums (bytesOf s) = s := by
  have e2 : (strOfNums (bytesOf s)).data.toList = (bytesOf s).map fun n => UInt8.ofNat n.toNat := strOfNums_data _
  have : (strOfNums (bytesOf s)).data.toList = s.data.toList := by
    rw [e2]
    unfold bytesOf
    rw [List.map_map]
    refine List.map_id'' (fun x => ?_) _
    simp
  exact ByteArray.ext (Array.toList_inj.1 this)
theorem str_size (l : List Int) : (strOfNums l).size = l.length := by
  have e2 : (strOfNums l).data.toList = l.map fun n => UInt8.ofNat n.toNat := strOfNums_data l
  have := congrArg List.length e2
  rw [List.length_map, Array.length_toList] at this
  exact this
end Go.Proofs.Ytengdchgfhcdhaa.Str
