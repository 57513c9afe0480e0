/- Words and walks that Apart rests on: CodecRK0. -/
import Derived.Test.YtpadflhffiiglaaGreatWApart24
/- codec.reader.order: other kinds. -/
namespace Go.Proofs.YtpadflhffiiglaaGreat
open Go.RowKit

end Go.Proofs.YtpadflhffiiglaaGreat
