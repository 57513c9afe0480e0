/- Words and walks that Apart rests on: OrderU7. -/
import Derived.Test.YtpadflhffiiglaaGreatWApart7
/- order.used, case 7. -/
namespace Go.Proofs.YtpadflhffiiglaaGreat
open Go.RowKit

end Go.Proofs.YtpadflhffiiglaaGreat
