/- Sets: small forms of the contracts. Written by gen_sets.py. -/
import Derived.Test.YtcdcpfcmhmhdjaaDoorPlain
import Derived.Test.YtcdcpfcmhmhdjaaDoorLawB
import Derived.Test.YtcdcpfcmhmhdjaaDoorOwn
import Derived.Test.YtcdcpfcmhmhdjaaDoorMkInt
namespace Go.Proofs.YtcdcpfcmhmhdjaaDoor
open Go.RowKit
theorem impl_HasMember_of {xs : List Int} {n : Int} {b : Bool} (h : hasB xs n = b) (v : Value) (w : World) (hx : RInts w v xs) : Calls Tryd.prog 20 #[v, .int .i64 n] w fun e w' => e = .returned (.bool b) ∧ w = w' := h ▸ impl_HasMember v n xs w hx
theorem spec_HasMember_of {xs : List Int} {n : Int} {b : Bool} (h : hasB xs n = b) (v : Value) (w : World) (hx : RInts w v xs) : Calls Tryd.prog 52 #[v, .int .i64 n] w fun e w' => e = .returned (.bool b) ∧ w = w' := h ▸ spec_HasMember v n xs w hx
theorem impl_IsSet_of {xs : List Int} {b : Bool} (h : isSetB xs = b) (v : Value) (w : World) (hx : RInts w v xs) : Calls Tryd.prog 15 #[v] w fun e w' => e = .returned (.bool b) ∧ Gr w w' := h ▸ impl_IsSet v xs w hx
theorem spec_IsSet_of {xs : List Int} {b : Bool} (h : isSetB xs = b) (v : Value) (w : World) (hx : RInts w v xs) : Calls Tryd.prog 16 #[v] w fun e w' => e = .returned (.bool b) ∧ Gr w w' := h ▸ spec_IsSet v xs w hx
end Go.Proofs.YtcdcpfcmhmhdjaaDoor
