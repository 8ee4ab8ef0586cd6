-- Written by a program of this session's (wip/tools/mp.py) for this claim.
import Derived.Test.YtmeaffkgnmgmeaaGx0
import Derived.Test.YtmeaffkgnmgmeaaGx1
import Derived.Test.YtmeaffkgnmgmeaaGx2
import Derived.Test.YtmeaffkgnmgmeaaGx3
namespace Go.Proofs.Ytmeaffkgnmgmeaa.G
end Go.Proofs.Ytmeaffkgnmgmeaa.G
