/- Strings as lists of numbers. No program in sight. -/
import Derived.Test.YtcdcpfcmhmhdjaaDoorBase
namespace Go.Proofs.YtcdcpfcmhmhdjaaDoor
open Go.RowKit
/-- The bytes of a string as numbers. -/
def nums (s : ByteArray) : List Nat := s.data.toList.map UInt8.toNat
theorem nums_len (s : ByteArray) : (nums s).length = s.size := by unfold nums; rw [List.length_map]; rfl
theorem nums_lt {s : ByteArray} {b : Nat} (h : b ∈ nums s) : b < 256 := by
  unfold nums at h; obtain ⟨c, _, rfl⟩ := List.mem_map.1 h; exact UInt8.toNat_lt c
theorem nums_get {s : ByteArray} {k : Nat} (h : k < s.size) : (nums s)[k]? = some s[k].toNat := by
  unfold nums; rw [List.getElem?_map, List.getElem?_eq_getElem (by simpa using h)]; rfl
theorem take_snoc {l : List Nat} {k b : Nat} (h : l[k]? = some b) : l.take (k + 1) = l.take k ++ [b] := by
  rw [List.take_add_one, h]; rfl
theorem ret_str_bool {a b : ByteArray} {c d : Bool} (h : a = b) (h' : c = d) : Ending.returned (.tuple #[.string a, .bool c]) = .returned (.tuple #[.string b, .bool d]) := by rw [h, h']
end Go.Proofs.YtcdcpfcmhmhdjaaDoor
