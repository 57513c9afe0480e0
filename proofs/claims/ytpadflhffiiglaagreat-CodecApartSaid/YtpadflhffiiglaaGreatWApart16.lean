/- Words and walks that Apart rests on: OrderU3. -/
import Derived.Test.YtpadflhffiiglaaGreatWApart15
/- order.used, case 3. -/
namespace Go.Proofs.YtpadflhffiiglaaGreat
open Go.RowKit

end Go.Proofs.YtpadflhffiiglaaGreat
