/- Comparing, reversing and ranking lists: contracts and what the laws need. No condition beyond the stated bounds. -/
import Derived.Test.YtlkmboolgfkcdaaCat
import Derived.Test.YtlkmboolgfkcdaaValid
namespace Go.Proofs.Ytlkmboolgfkcdaa
open Go.RowKit
end Go.Proofs.Ytlkmboolgfkcdaa
