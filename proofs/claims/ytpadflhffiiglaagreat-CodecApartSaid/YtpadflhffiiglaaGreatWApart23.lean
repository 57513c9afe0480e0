/- Words and walks that Apart rests on: OrderR. -/
import Derived.Test.YtpadflhffiiglaaGreatWApart22
/- order.Right. -/
namespace Go.Proofs.YtpadflhffiiglaaGreat
open Go.RowKit

end Go.Proofs.YtpadflhffiiglaaGreat
