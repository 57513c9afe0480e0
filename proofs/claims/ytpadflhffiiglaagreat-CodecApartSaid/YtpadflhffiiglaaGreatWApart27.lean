/- Words and walks that Apart rests on: CodecRK2. -/
import Derived.Test.YtpadflhffiiglaaGreatWApart24
/- codec.reader.order: kind 2. -/
namespace Go.Proofs.YtpadflhffiiglaaGreat
open Go.RowKit

end Go.Proofs.YtpadflhffiiglaaGreat
