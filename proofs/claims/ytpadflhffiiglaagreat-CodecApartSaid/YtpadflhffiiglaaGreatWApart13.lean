/- Words and walks that Apart rests on: OrderU1. -/
import Derived.Test.YtpadflhffiiglaaGreatWApart7
/- order.used, case 1. -/
namespace Go.Proofs.YtpadflhffiiglaaGreat
open Go.RowKit

end Go.Proofs.YtpadflhffiiglaaGreat
