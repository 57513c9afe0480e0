/- Words and walks that Apart rests on: OrderU4. -/
import Derived.Test.YtpadflhffiiglaaGreatWApart7
/- order.used, case 4. -/
namespace Go.Proofs.YtpadflhffiiglaaGreat
open Go.RowKit

end Go.Proofs.YtpadflhffiiglaaGreat
