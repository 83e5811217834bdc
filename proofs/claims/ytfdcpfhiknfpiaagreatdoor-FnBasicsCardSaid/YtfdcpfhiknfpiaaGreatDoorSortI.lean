/- The reference's insertion sort and the program's slices.Sort give the sorted list. No condition beyond the stated bounds. -/
import Derived.Test.YtfdcpfhiknfpiaaGreatDoorCat
import Derived.Test.YtfdcpfhiknfpiaaGreatDoorPlainSort
import Derived.Test.YtfdcpfhiknfpiaaGreatDoorNat1
namespace Go.Proofs.YtfdcpfhiknfpiaaGreatDoor
open Go.RowKit
end Go.Proofs.YtfdcpfhiknfpiaaGreatDoor
