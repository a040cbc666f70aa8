/- Lists by links: the walks of All, Back and what tells a row. -/
import Derived.Test.YtjjaijabdfoanaaDoorLsW3
set_option linter.unusedVariables false
namespace Go.Proofs.YtjjaijabdfoanaaDoor.Ls
open Go Go.RowKit Go.Proofs.YtjjaijabdfoanaaDoor.Sx Go.Proofs.YtjjaijabdfoanaaDoor
set_option maxRecDepth 100000

end Go.Proofs.YtjjaijabdfoanaaDoor.Ls
