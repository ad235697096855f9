/- The library's sort at int64, laid. -/
import Derived.Test.YtiaineljcmjfoaaProg
import Derived.Shelf.Lay
import Derived.Shelf.SlGeneric
import Derived.Ground.SlgnProg
import Derived.Shelf.SortG.Plain
namespace Go.Proofs
open Go.Shelf
shelf_lay_g SlLaysN.n53 Slgn 53 at Try 60 as Try.laysSort
end Go.Proofs
