/- WALKS: how flags, changes and pairs of flags are drawn: whatever the code, numbers come out, and nothing that was there is written. -/
import Derived.Test.YtpahgjideppmoaaRead
import Derived.Handy
namespace Go.Proofs.Ytpahgjideppmoaa
open Go.RowKit

end Go.Proofs.Ytpahgjideppmoaa
