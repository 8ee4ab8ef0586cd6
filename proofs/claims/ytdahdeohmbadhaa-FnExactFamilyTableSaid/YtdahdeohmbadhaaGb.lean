-- Written by a program of this session's (wip/tools/mp.py) for this claim.
import Derived.Test.YtdahdeohmbadhaaGx0
import Derived.Test.YtdahdeohmbadhaaGx1
import Derived.Test.YtdahdeohmbadhaaGx2
import Derived.Test.YtdahdeohmbadhaaGx3
import Derived.Test.YtdahdeohmbadhaaGx4
import Derived.Test.YtdahdeohmbadhaaGx5
namespace Go.Proofs.Ytdahdeohmbadhaa.G
end Go.Proofs.Ytdahdeohmbadhaa.G
