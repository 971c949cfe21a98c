/- Words of the kit's print that this claim uses. Not of this session's own making. -/
-- PRINTED BY print.sh 35421559b90ae4d0a3588c463048766b98c2df88dd9212a6774a882060cdf62d: not written by this session
import Derived.Test.YtnbmlblcmjaclaaVFnWidthsInv
import Derived.Test.YtnbmlblcmjaclaaVFnWidthsFootNe
namespace Go.Proofs.YtnbmlblcmjaclaaW.PrintWords
open Go.RowKit
end Go.Proofs.YtnbmlblcmjaclaaW.PrintWords
namespace Go.Proofs.YtnbmlblcmjaclaaW.PrintLast
section
variable {ops : Array Oper} {a : Act} {o og : Oper} {g : Nat} {t : Tmp} {u : Bool}
end
end Go.Proofs.YtnbmlblcmjaclaaW.PrintLast
