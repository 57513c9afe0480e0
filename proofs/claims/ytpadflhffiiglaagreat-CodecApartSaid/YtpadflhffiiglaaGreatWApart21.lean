/- Words and walks that Apart rests on: OrderU. -/
import Derived.Test.YtpadflhffiiglaaGreatWApart13
import Derived.Test.YtpadflhffiiglaaGreatWApart14
import Derived.Test.YtpadflhffiiglaaGreatWApart16
import Derived.Test.YtpadflhffiiglaaGreatWApart17
import Derived.Test.YtpadflhffiiglaaGreatWApart18
import Derived.Test.YtpadflhffiiglaaGreatWApart19
import Derived.Test.YtpadflhffiiglaaGreatWApart20
/- order.used. -/
namespace Go.Proofs.YtpadflhffiiglaaGreat
open Go.RowKit

end Go.Proofs.YtpadflhffiiglaaGreat
