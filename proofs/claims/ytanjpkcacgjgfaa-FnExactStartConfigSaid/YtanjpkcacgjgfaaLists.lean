/- Comparing, reversing and ranking lists: contracts and what the laws need. No condition beyond the stated bounds. -/
import Derived.Test.YtanjpkcacgjgfaaCat
import Derived.Test.YtanjpkcacgjgfaaValid
namespace Go.Proofs.Ytanjpkcacgjgfaa
open Go.RowKit
end Go.Proofs.Ytanjpkcacgjgfaa
