/- Words and walks that Apart rests on: OrderU5. -/
import Derived.Test.YtpadflhffiiglaaGreatWApart15
/- order.used, case 5. -/
namespace Go.Proofs.YtpadflhffiiglaaGreat
open Go.RowKit

end Go.Proofs.YtpadflhffiiglaaGreat
