/- VersionKnown: the walk of cutoverlaw8.VersionKnown: it answers true, and turns no memory. -/
import Derived.Test.YtngfimjbgopgjaaVerRef
namespace Go.Proofs.Ytngfimjbgopgjaa.versionKnown
open Go.RowKit
set_option linter.unusedVariables false

theorem n19 : nextV 1 9 = (0, 1) := by decide
theorem n91 : nextV 9 1 = (0, 1) := by decide
theorem nm1 : nextV (-1) 1 = (0, 1) := by decide
theorem n08 : nextV 0 8 = (8, 0) := by decide
theorem nbig : nextV 1099511627761 8 = (1099511627768, 0) := by decide
set_option maxHeartbeats 1000000 in
theorem walk (w : World) :
    Calls Try.prog 5 #[] w fun e w' => e = .returned (.bool true) ∧ Grown w w' := by
  have e1 := n19
  have e2 := n91
  have e3 := nm1
  have e4 := n08
  have e5 := nbig
  have f1 : rightB 8 = true := by decide
  have f2 : rightB 9 = false := by decide
  have f3 : rightB 10 = false := by decide
  have f4 : rightB 0 = false := by decide
  have f5 : rightB (-3) = false := by decide
  have f6 : firstV 3 = 3 := by decide
  have f7 : firstV 9 = 0 := by decide
  go_enter Try.func5, Try.ntmps5
  go_wp2_with (first
      | (go_at_call 22; refine (pick_any _ _ _ (by omega) (by omega)).mono ?_; rintro e w' ⟨rfl, rfl⟩)
      | (go_at_call 23; refine (right_any _ _).mono ?_; rintro e w' ⟨rfl, rfl⟩)
      | (go_at_call 26; refine (owner_any _ _).mono ?_; rintro e w' ⟨rfl, rfl⟩)
      | (go_at_call 24; refine (next_any _ _ _).mono ?_; rintro e w' ⟨rfl, rfl⟩)
      | (go_at_call 42; refine (first_any _ _).mono ?_; rintro e w' ⟨rfl, rfl⟩)
      | (go_at_call 43; refine (rNext_any _ _ _).mono ?_; rintro e w' ⟨rfl, rfl⟩)
      | (go_at_call 44; refine (rRight_any _ _).mono ?_; rintro e w' ⟨rfl, rfl⟩)
      | (go_at_call 45; refine (rOwner_any _ _).mono ?_; rintro e w' ⟨rfl, rfl⟩)
      | (go_at_call 46; refine (rFirst_any _ _).mono ?_; rintro e w' ⟨rfl, rfl⟩)
      | (go_at_call 25; refine (known8_any _).mono ?_; rintro e w' ⟨rfl, rfl⟩))
  go_ret
  exact ⟨rfl, Grown.refl _⟩
end Go.Proofs.Ytngfimjbgopgjaa.versionKnown
