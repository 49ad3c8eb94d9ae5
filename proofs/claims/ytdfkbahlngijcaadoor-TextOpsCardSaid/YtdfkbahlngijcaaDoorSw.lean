/- A byte of a string in its list. -/
import Derived.Test.YtdfkbahlngijcaaDoorEa
namespace Go.Proofs.YtdfkbahlngijcaaDoor
theorem byte_at (s : ByteArray) {i : Nat} (h : i < s.size) : s.data.toList[i]? = some s[i] := by
  rw [Array.getElem?_toList, Array.getElem?_eq_getElem (show i < s.data.size from h)]
  rfl
end Go.Proofs.YtdfkbahlngijcaaDoor
