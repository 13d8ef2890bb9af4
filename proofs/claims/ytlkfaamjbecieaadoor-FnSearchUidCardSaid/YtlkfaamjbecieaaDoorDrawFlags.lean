/- WALKS: how flags, changes and pairs of flags are drawn: whatever the code, numbers come out, and nothing that was there is written. -/
import Derived.Test.YtlkfaamjbecieaaDoorRead
import Derived.Handy
namespace Go.Proofs.YtlkfaamjbecieaaDoor
open Go.RowKit

end Go.Proofs.YtlkfaamjbecieaaDoor
