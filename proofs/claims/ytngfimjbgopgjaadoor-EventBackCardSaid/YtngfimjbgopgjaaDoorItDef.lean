/- What two lists of items have in common; an item in a box. -/
import Derived.Test.YtngfimjbgopgjaaDoorIt
namespace Go.Proofs.YtngfimjbgopgjaaDoor
open Go.RowKit
set_option linter.unusedVariables false

/-- The last event up to which both have the same versions, behind one that they have in common. -/
def commonFrom (out : It) : List It → List It → It
  | a :: l, b :: m => if a.2 = b.2 then (if a.1 = b.1 then commonFrom (min a.1 b.1, a.2) l m else (min a.1 b.1, a.2)) else out
  | _, _ => out
def commonL (l m : List It) : It := commonFrom (0, 0) l m
theorem commonFrom_nil_left (out : It) (m : List It) : commonFrom out [] m = out := by cases m <;> rfl
theorem commonFrom_nil_right (out : It) (l : List It) : commonFrom out l [] = out := by cases l <;> rfl

end Go.Proofs.YtngfimjbgopgjaaDoor
