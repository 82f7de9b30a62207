/- WHAT LaneEnds STANDS ON: all contracts that its walk wants, named in o -/
import Derived.Test.YtaipgdhdfpemcaaG30
import Derived.Test.YtaipgdhdfpemcaaG38
import Derived.Test.YtaipgdhdfpemcaaG41
import Derived.Test.YtaipgdhdfpemcaaG43
namespace Go.Proofs.Ytaipgdhdfpemcaa
set_option linter.all false
open Go.RowKit
set_option maxRecDepth 100000
set_option maxHeartbeats 4000000

end Go.Proofs.Ytaipgdhdfpemcaa
