/- Words and walks that SF rests on: LawSaveCleans. -/
import Derived.Test.YtbiadpkglcdihaaGreatWSF21
import Derived.Test.YtbiadpkglcdihaaGreatWSF22
import Derived.Test.YtbiadpkglcdihaaGreatWSF27
import Derived.Test.YtbiadpkglcdihaaGreatWSF28
import Derived.Test.YtbiadpkglcdihaaGreatWSF23
/- SaveCleans: for every input the law returns true. -/
namespace Go.Proofs.YtbiadpkglcdihaaGreat
open Go.RowKit

section
end
end Go.Proofs.YtbiadpkglcdihaaGreat
