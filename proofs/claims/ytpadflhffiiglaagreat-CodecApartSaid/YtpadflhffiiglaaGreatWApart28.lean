/- Words and walks that Apart rests on: CodecRK3. -/
import Derived.Test.YtpadflhffiiglaaGreatWApart24
/- codec.reader.order: kind 3. -/
namespace Go.Proofs.YtpadflhffiiglaaGreat
open Go.RowKit

end Go.Proofs.YtpadflhffiiglaaGreat
