/- Words and walks that Apart rests on: CodecRK5. -/
import Derived.Test.YtpadflhffiiglaaGreatWApart24
/- codec.reader.order: kind 5. -/
namespace Go.Proofs.YtpadflhffiiglaaGreat
open Go.RowKit

end Go.Proofs.YtpadflhffiiglaaGreat
