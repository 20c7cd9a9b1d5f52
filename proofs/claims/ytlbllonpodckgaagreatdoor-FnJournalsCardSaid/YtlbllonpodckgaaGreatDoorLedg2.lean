/- Turnovers and balances of accounts: the program's and the reference's contracts over one plain function each. -/
import Derived.Test.YtlbllonpodckgaaGreatDoorLedg
import Derived.Test.YtlbllonpodckgaaGreatDoorStInt
namespace Go.Proofs.YtlbllonpodckgaaGreatDoor
open Go.RowKit Go.BigFrame

end Go.Proofs.YtlbllonpodckgaaGreatDoor
