import Derived.Test.YtjilnpbgclnecacWInv
import Derived.Test.YtjilnpbgclnecacWFootNe
namespace Go.Proofs.YtjilnpbgclnecacW.PrintWords
open Go.RowKit
end Go.Proofs.YtjilnpbgclnecacW.PrintWords
namespace Go.Proofs.YtjilnpbgclnecacW.PrintLast
section
variable {ops : Array Oper} {a : Act} {o og : Oper} {g : Nat} {t : Tmp} {u : Bool}
end
end Go.Proofs.YtjilnpbgclnecacW.PrintLast
