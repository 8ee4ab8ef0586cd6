-- Written by a program of this session's (wip/tools/mp.py) for this claim.
import Derived.Test.YtmanloolbpmgiaaGx0
import Derived.Test.YtmanloolbpmgiaaGx1
import Derived.Test.YtmanloolbpmgiaaGx2
import Derived.Test.YtmanloolbpmgiaaGx3
import Derived.Test.YtmanloolbpmgiaaGx4
namespace Go.Proofs.Ytmanloolbpmgiaa.G
end Go.Proofs.Ytmanloolbpmgiaa.G
