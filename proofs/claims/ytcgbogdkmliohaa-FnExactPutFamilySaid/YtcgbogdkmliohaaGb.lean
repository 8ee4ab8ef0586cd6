-- Written by a program of this session's (wip/tools/mp.py) for this claim.
import Derived.Test.YtcgbogdkmliohaaGx0
import Derived.Test.YtcgbogdkmliohaaGx1
import Derived.Test.YtcgbogdkmliohaaGx2
import Derived.Test.YtcgbogdkmliohaaGx3
namespace Go.Proofs.Ytcgbogdkmliohaa.G
end Go.Proofs.Ytcgbogdkmliohaa.G
