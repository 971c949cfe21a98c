/- Words of the kit's print that this claim uses. Not of this session's own making. -/
-- PRINTED BY print.sh 35421559b90ae4d0a3588c463048766b98c2df88dd9212a6774a882060cdf62d: not written by this session
import Derived.Test.YtlhipchbjgfodaaVFnExactGalleyTextLast
import Derived.Test.YtlhipchbjgfodaaVFnExactGalleyTextWords
namespace Go.Proofs.YtlhipchbjgfodaaW.PrintLast
open Go.Proofs.YtlhipchbjgfodaaW.PrintWords (Aside0)
section
variable {md : Region.Mode} {ops : Array Oper} {T : Bool × List (List Nat × List Nat)} {l l' li lj lk : Array Bool} {ds : List Nat} {i j k : Nat}
end
end Go.Proofs.YtlhipchbjgfodaaW.PrintLast
