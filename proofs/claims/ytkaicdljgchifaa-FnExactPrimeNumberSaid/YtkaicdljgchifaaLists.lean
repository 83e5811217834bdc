/- Comparing, reversing and ranking lists: contracts and what the laws need. No condition beyond the stated bounds. -/
import Derived.Test.YtkaicdljgchifaaCat
import Derived.Test.YtkaicdljgchifaaValid
namespace Go.Proofs.Ytkaicdljgchifaa
open Go.RowKit
end Go.Proofs.Ytkaicdljgchifaa
