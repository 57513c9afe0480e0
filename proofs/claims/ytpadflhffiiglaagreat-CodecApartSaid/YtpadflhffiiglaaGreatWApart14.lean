/- Words and walks that Apart rests on: OrderU2. -/
import Derived.Test.YtpadflhffiiglaaGreatWApart7
/- order.used, case 2. -/
namespace Go.Proofs.YtpadflhffiiglaaGreat
open Go.RowKit

end Go.Proofs.YtpadflhffiiglaaGreat
