/- Comparing, reversing and ranking lists: contracts and what the laws need. No condition beyond the stated bounds. -/
import Derived.Test.YtbjkhnajnbmnlaaCat
import Derived.Test.YtbjkhnajnbmnlaaValid
namespace Go.Proofs.Ytbjkhnajnbmnlaa
open Go.RowKit
end Go.Proofs.Ytbjkhnajnbmnlaa
