/- WALKS: how flags, changes and pairs of flags are drawn: whatever the code, numbers come out, and nothing that was there is written. -/
import Derived.Test.YtieehpjdodbgoaaDoorRead
import Derived.Handy
namespace Go.Proofs.YtieehpjdodbgoaaDoor
open Go.RowKit

end Go.Proofs.YtieehpjdodbgoaaDoor
