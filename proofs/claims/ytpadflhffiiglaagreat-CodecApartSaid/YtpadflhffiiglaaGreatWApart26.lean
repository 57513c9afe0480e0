/- Words and walks that Apart rests on: CodecRK1. -/
import Derived.Test.YtpadflhffiiglaaGreatWApart24
/- codec.reader.order: kind 1. -/
namespace Go.Proofs.YtpadflhffiiglaaGreat
open Go.RowKit

end Go.Proofs.YtpadflhffiiglaaGreat
