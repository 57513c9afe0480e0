/- Words and walks that Apart rests on: OrderS. -/
import Derived.Test.YtpadflhffiiglaaGreatWApart21
/- order.Same. -/
namespace Go.Proofs.YtpadflhffiiglaaGreat
open Go.RowKit

end Go.Proofs.YtpadflhffiiglaaGreat
