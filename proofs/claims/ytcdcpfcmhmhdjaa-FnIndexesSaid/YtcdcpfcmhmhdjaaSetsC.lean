/- Sets: small forms of the contracts. Written by gen_sets.py. -/
import Derived.Test.YtcdcpfcmhmhdjaaPlain
import Derived.Test.YtcdcpfcmhmhdjaaLawB
import Derived.Test.YtcdcpfcmhmhdjaaOwn
import Derived.Test.YtcdcpfcmhmhdjaaMkInt
namespace Go.Proofs.Ytcdcpfcmhmhdjaa
open Go.RowKit
theorem impl_HasMember_of {xs : List Int} {n : Int} {b : Bool} (h : hasB xs n = b) (v : Value) (w : World) (hx : RInts w v xs) : Calls Try.prog 72 #[v, .int .i64 n] w fun e w' => e = .returned (.bool b) ∧ w = w' := h ▸ impl_HasMember v n xs w hx
theorem spec_HasMember_of {xs : List Int} {n : Int} {b : Bool} (h : hasB xs n = b) (v : Value) (w : World) (hx : RInts w v xs) : Calls Try.prog 52 #[v, .int .i64 n] w fun e w' => e = .returned (.bool b) ∧ w = w' := h ▸ spec_HasMember v n xs w hx
theorem impl_IsSet_of {xs : List Int} {b : Bool} (h : isSetB xs = b) (v : Value) (w : World) (hx : RInts w v xs) : Calls Try.prog 69 #[v] w fun e w' => e = .returned (.bool b) ∧ Gr w w' := h ▸ impl_IsSet v xs w hx
theorem spec_IsSet_of {xs : List Int} {b : Bool} (h : isSetB xs = b) (v : Value) (w : World) (hx : RInts w v xs) : Calls Try.prog 73 #[v] w fun e w' => e = .returned (.bool b) ∧ Gr w w' := h ▸ spec_IsSet v xs w hx
end Go.Proofs.Ytcdcpfcmhmhdjaa
