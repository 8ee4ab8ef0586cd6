-- Written by a program of this session's (wip/tools/mp.py) for this claim.
import Derived.Test.YtgemfighmnnmeaaGx0
import Derived.Test.YtgemfighmnnmeaaGx1
import Derived.Test.YtgemfighmnnmeaaGx2
import Derived.Test.YtgemfighmnnmeaaGx3
import Derived.Test.YtgemfighmnnmeaaGx4
namespace Go.Proofs.Ytgemfighmnnmeaa.G
end Go.Proofs.Ytgemfighmnnmeaa.G
