/- Sets: small forms of the contracts. Written by gen_sets.py. -/
import Derived.Test.YtjeffagejbdjkaaDoorPlain
import Derived.Test.YtjeffagejbdjkaaDoorLawB
import Derived.Test.YtjeffagejbdjkaaDoorOwn
import Derived.Test.YtjeffagejbdjkaaDoorMkInt
namespace Go.Proofs.YtjeffagejbdjkaaDoor
open Go.RowKit
theorem impl_IsSet_of {xs : List Int} {b : Bool} (h : isSetB xs = b) (v : Value) (w : World) (hx : RInts w v xs) : Calls Tryd.prog 49 #[v] w fun e w' => e = .returned (.bool b) ∧ Gr w w' := h ▸ impl_IsSet v xs w hx
theorem spec_IsSet_of {xs : List Int} {b : Bool} (h : isSetB xs = b) (v : Value) (w : World) (hx : RInts w v xs) : Calls Tryd.prog 48 #[v] w fun e w' => e = .returned (.bool b) ∧ Gr w w' := h ▸ spec_IsSet v xs w hx
end Go.Proofs.YtjeffagejbdjkaaDoor
