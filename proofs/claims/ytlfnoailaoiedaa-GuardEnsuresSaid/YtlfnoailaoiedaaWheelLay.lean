/- The library's generic functions that the wheel calls, laid from the shelf's contracts. -/
import Derived.Test.YtlfnoailaoiedaaProg
import Derived.Shelf.SlSortCmp.Whole1
import Derived.Shelf.Lay
import Derived.Ground.SlsfProg
import Derived.Shelf.SlMaps.Clone
import Derived.Ground.SlmcProg
namespace Go.Proofs
open Go.RowKit Go.Sort Go.Shelf
shelf_lay_g SlLaysF.n6 Slsf 6 at Try 158 as Try.sortF
shelf_lay_g SlLaysW.n5 Slmc 5 at Try 104 as Try.cloneM
end Go.Proofs
