/- The sort of the library is not reached here: what texts of mine want of it. -/
import Derived.Shelf.SlGeneric
import Derived.Shelf.SlSortCmp.NoneTotal
import Derived.Ground.SlsfProg
import Derived.Test.YtlapicgeokjpjaaProg
