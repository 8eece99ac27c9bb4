/- Contracts of items.Last, Version, Has, Cut. -/
import Derived.Test.YtngfimjbgopgjaaDoorItGrow
namespace Go.Proofs.YtngfimjbgopgjaaDoor
open Go.RowKit
set_option linter.unusedVariables false

/-- The two cells of the item at k. -/
theorem it_cells {w : World} {b o : Nat} {l : List It} (h : RdIt w (some ⟨b, o, none⟩) l) (k : Nat) (hk : k < l.length) : w.cell? ⟨b, o + k * 2, none⟩ = some (.int .i64 l[k].1) ∧ w.cell? ⟨b, o + k * 2 + 1, none⟩ = some (.int .i64 l[k].2) :=
  ⟨h.cells rfl _ _ (itC_id l k hk), by rw [Nat.add_assoc]; exact h.cells rfl _ _ (itC_ver l k hk)⟩

theorem beq_dec (a b : Int) : (a == b) = decide (a = b) := by rw [Bool.eq_iff_iff]; simp

end Go.Proofs.YtngfimjbgopgjaaDoor
