/- Words and walks that Apart rests on: OrderU6. -/
import Derived.Test.YtpadflhffiiglaaGreatWApart7
/- order.used, case 6. -/
namespace Go.Proofs.YtpadflhffiiglaaGreat
open Go.RowKit

end Go.Proofs.YtpadflhffiiglaaGreat
