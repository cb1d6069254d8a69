/- The reference's climb; path.Check. (printed by gen/pathe.py) -/
import Derived.Test.YtfibhmgjkooemaaDoorPathB
import Derived.Test.YtfibhmgjkooemaaDoorLeafRA
namespace Go.Proofs.YtfibhmgjkooemaaDoor
open Go.RowKit Sha Root Ones Path
end Go.Proofs.YtfibhmgjkooemaaDoor
