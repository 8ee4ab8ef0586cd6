-- Written by a program of this session's (wip/tools/mp.py) for this claim.
import Derived.Test.YtdahdeohmbadhaaGx0
import Derived.Test.YtdahdeohmbadhaaGx1
import Derived.Test.YtdahdeohmbadhaaGx2
import Derived.Test.YtdahdeohmbadhaaGx3
namespace Go.Proofs.Ytdahdeohmbadhaa.G
end Go.Proofs.Ytdahdeohmbadhaa.G
