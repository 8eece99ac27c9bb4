/- VersionTells: the walk of cutoverlaw8.VersionTells: it answers true, and turns no memory. -/
import Derived.Test.YtngfimjbgopgjaaVerRef
namespace Go.Proofs.Ytngfimjbgopgjaa.versionTells
open Go.RowKit
set_option linter.unusedVariables false

set_option maxHeartbeats 4000000 in
theorem walk (a0 : Int) (a1 : Int) (a2 : Int) (w0 : (Lit.int .i64 a0).wf = true) (w1 : (Lit.int .i64 a1).wf = true) (w2 : (Lit.int .i64 a2).wf = true) (w : World) :
    Calls Try.prog 6 #[.int .i64 a0, .int .i64 a1, .int .i64 a2] w fun e w' => e = .returned (.bool true) ∧ Grown w w' := by
  have p0 := Int.emod_nonneg a0 (by omega : (200 : Int) ≠ 0)
  have p0' := Int.emod_lt_of_pos a0 (by omega : (0 : Int) < 200)
  have p1 := Int.emod_nonneg a0 (by omega : (40 : Int) ≠ 0)
  have p1' := Int.emod_lt_of_pos a0 (by omega : (0 : Int) < 40)
  have p2 := Int.emod_nonneg a1 (by omega : (12 : Int) ≠ 0)
  have p2' := Int.emod_lt_of_pos a1 (by omega : (0 : Int) < 12)
  have p3 := Int.emod_nonneg a2 (by omega : (4 : Int) ≠ 0)
  have p3' := Int.emod_lt_of_pos a2 (by omega : (0 : Int) < 4)
  go_enter Try.func6, Try.ntmps6
  go_wp2_with (first
      | (go_at_call 22; refine (pick_any _ _ _ (by omega) (by omega)).mono ?_; rintro e w' ⟨rfl, rfl⟩)
      | (go_at_call 23; refine (right_any _ _).mono ?_; rintro e w' ⟨rfl, rfl⟩)
      | (go_at_call 26; refine (owner_any _ _).mono ?_; rintro e w' ⟨rfl, rfl⟩)
      | (go_at_call 24; refine (next_any _ _ _).mono ?_; rintro e w' ⟨rfl, rfl⟩)
      | (go_at_call 42; refine (first_any _ _).mono ?_; rintro e w' ⟨rfl, rfl⟩)
      | (go_at_call 43; refine (rNext_any _ _ _).mono ?_; rintro e w' ⟨rfl, rfl⟩)
      | (go_at_call 44; refine (rRight_any _ _).mono ?_; rintro e w' ⟨rfl, rfl⟩)
      | (go_at_call 45; refine (rOwner_any _ _).mono ?_; rintro e w' ⟨rfl, rfl⟩)
      | (go_at_call 46; refine (rFirst_any _ _).mono ?_; rintro e w' ⟨rfl, rfl⟩)
      | (go_at_call 25; refine (known8_any _).mono ?_; rintro e w' ⟨rfl, rfl⟩))
  all_goals (go_ret; exact ⟨by first | rfl | simp [go_sem], Grown.refl _⟩)
end Go.Proofs.Ytngfimjbgopgjaa.versionTells
