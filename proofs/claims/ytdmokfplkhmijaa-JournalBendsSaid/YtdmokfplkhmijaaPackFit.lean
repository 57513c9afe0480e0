/- bagatellelaw14.fit. -/
import Derived.Test.YtdmokfplkhmijaaPackW
import Derived.Test.YtdmokfplkhmijaaPackR
import Derived.Test.YtdmokfplkhmijaaConv
namespace Go.Proofs.Ytdmokfplkhmijaa
open Go.RowKit

end Go.Proofs.Ytdmokfplkhmijaa
