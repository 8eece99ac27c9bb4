/- Contracts of items.Lay and of slices.Equal over bytes. -/
import Derived.Test.YtngfimjbgopgjaaDoorItV
import Derived.Test.YtngfimjbgopgjaaDoorItR
import Derived.Test.YtngfimjbgopgjaaDoorOctKnown
namespace Go.Proofs.YtngfimjbgopgjaaDoor
open Go.RowKit
set_option linter.unusedVariables false

/-- The bytes of items, one by one. -/
def itB : List It → List Int
  | [] => []
  | x :: l => be (IntKind.u64.wrap x.1) 2 ++ be (IntKind.u64.wrap x.2) 8 ++ itB l
def layB (l : List It) : List Int := be (IntKind.u64.wrap l.length) 2 ++ itB l
theorem itB_len (l : List It) : (itB l).length = l.length * 10 := by
  induction l with
  | nil => rfl
  | cons x l ih => simp only [itB, List.length_append, be_length, ih, List.length_cons]; omega
theorem itB_snoc (l : List It) (x : It) : itB (l ++ [x]) = itB l ++ be (IntKind.u64.wrap x.1) 2 ++ be (IntKind.u64.wrap x.2) 8 := by
  induction l with
  | nil => simp [itB]
  | cons y l ih => simp [itB, ih]

end Go.Proofs.YtngfimjbgopgjaaDoor
