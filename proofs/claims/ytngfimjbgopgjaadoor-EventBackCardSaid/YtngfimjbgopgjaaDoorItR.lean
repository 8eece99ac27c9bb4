/- Contracts of items.Right. -/
import Derived.Test.YtngfimjbgopgjaaDoorIt
import Derived.Test.YtngfimjbgopgjaaDoorVer
namespace Go.Proofs.YtngfimjbgopgjaaDoor
open Go.RowKit
set_option linter.unusedVariables false

/-- May an item stand behind another one? -/
def okI (last i : It) : Bool := decide (last.1 < i.1) && decide (i.1 ≤ 200) && decide (last.2 < i.2) && rightB i.2
/-- Are the items right, behind one? -/
def rightFrom (last : It) : List It → Bool
  | [] => true
  | i :: l => okI last i && rightFrom i l
/-- Are the items right? -/
def rightL (l : List It) : Bool := rightFrom (0, 0) l

end Go.Proofs.YtngfimjbgopgjaaDoor
