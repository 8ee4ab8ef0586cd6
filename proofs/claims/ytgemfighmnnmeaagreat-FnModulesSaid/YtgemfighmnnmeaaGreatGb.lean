-- Written by a program of this session's (wip/tools/mp.py) for this claim.
import Derived.Test.YtgemfighmnnmeaaGreatGx0
import Derived.Test.YtgemfighmnnmeaaGreatGx1
import Derived.Test.YtgemfighmnnmeaaGreatGx2
import Derived.Test.YtgemfighmnnmeaaGreatGx3
import Derived.Test.YtgemfighmnnmeaaGreatGx4
namespace Go.Proofs.YtgemfighmnnmeaaGreat.G
end Go.Proofs.YtgemfighmnnmeaaGreat.G
