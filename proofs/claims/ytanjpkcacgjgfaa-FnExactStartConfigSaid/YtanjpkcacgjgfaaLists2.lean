/- Shortlex order, reversing, ranks: contracts and what the laws need. No condition beyond the stated bounds. -/
import Derived.Test.YtanjpkcacgjgfaaLists
namespace Go.Proofs.Ytanjpkcacgjgfaa
open Go.RowKit
end Go.Proofs.Ytanjpkcacgjgfaa
