/- Shortlex order, reversing, ranks: contracts and what the laws need. No condition beyond the stated bounds. -/
import Derived.Test.YtbjkhnajnbmnlaaLists
namespace Go.Proofs.Ytbjkhnajnbmnlaa
open Go.RowKit
end Go.Proofs.Ytbjkhnajnbmnlaa
