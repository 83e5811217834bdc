/- ListText of the program. Where the table of powers is laid. -/
import Derived.Test.YtcjcbgmgepohaaaDoorLText
import Derived.Test.YtcjcbgmgepohaaaDoorShelf
namespace Go.Proofs.YtcjcbgmgepohaaaDoor
open Go.RowKit Go.Joins
theorem strs_data (l : List (List UInt8)) : (l.map str).map (·.data.toList) = l := by
  rw [List.map_map]; exact List.map_id'' (fun a => rfl) l
end Go.Proofs.YtcjcbgmgepohaaaDoor
