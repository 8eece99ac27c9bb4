/- VersionRises: the walk of cutoverlaw8.VersionRises: it answers true at every input, and turns no memory. -/
import Derived.Test.YtngfimjbgopgjaaVer
namespace Go.Proofs.Ytngfimjbgopgjaa.versionRises
open Go.RowKit
set_option linter.unusedVariables false

/-- What comes next, as plain numbers. -/
theorem next_plain (v r : Int) (hr1 : 1 ≤ r) (hr2 : r ≤ 8) (hv : rightB v = true) (hs : v ≤ 1073741824) :
    ∃ x, nextV v r = (x, 0) ∧ v < x ∧ x ≤ v + 10 ∧ x % 10 = r ∧ rightB x = true := by
  obtain ⟨v1, v2, v3, v4⟩ := rightB_iff.1 hv
  rw [nextV_of (isB_true hr1 hr2) (.inr hv)]
  by_cases h : v - v % 10 + r ≤ v
  · rw [if_pos h, if_neg (by omega)]
    exact ⟨_, rfl, by omega, by omega, by omega, rightB_iff.2 (by omega)⟩
  · rw [if_neg h, if_neg (by omega)]
    exact ⟨_, rfl, by omega, by omega, by omega, rightB_iff.2 (by omega)⟩

/-! ### STEP 1: THE WALK -/
set_option maxHeartbeats 1000000 in
theorem walk_of (vv a0 a1 a2 : Int) (hvv : rightB vv = true) (hs : vv ≤ 1073741824) (hv0 : 1 ≤ vv)
    (hcase : rightB (a0 % 1073741824) = true ∧ vv = a0 % 1073741824 ∨ rightB (a0 % 1073741824) = false ∧ vv = 1 + a1 % 8) (w : World) :
    Calls Try.prog 3 #[.int .i64 a0, .int .i64 a1, .int .i64 a2] w fun e w' => e = .returned (.bool true) ∧ Grown w w' := by
  have p0 := Int.emod_nonneg a0 (by omega : (1073741824 : Int) ≠ 0)
  have p0' := Int.emod_lt_of_pos a0 (by omega : (0 : Int) < 1073741824)
  have p1 := Int.emod_nonneg a1 (by omega : (8 : Int) ≠ 0)
  have p1' := Int.emod_lt_of_pos a1 (by omega : (0 : Int) < 8)
  have p2 := Int.emod_nonneg a2 (by omega : (8 : Int) ≠ 0)
  have p2' := Int.emod_lt_of_pos a2 (by omega : (0 : Int) < 8)
  obtain ⟨x, hx, x1, x2, x3, x4⟩ := next_plain vv (1 + a1 % 8) (by omega) (by omega) hvv hs
  obtain ⟨y, hy, y1, y2, y3, y4⟩ := next_plain vv (1 + a2 % 8) (by omega) (by omega) hvv hs
  have hxy : (x == y) = (1 + a1 % 8 == 1 + a2 % 8) := by
    rw [Bool.eq_iff_iff, beq_iff_eq, beq_iff_eq]
    constructor
    · intro h; omega
    · intro h
      rw [h] at hx
      rw [hx] at hy
      simpa using hy
  have hxo : (x % 10 == 1 + a1 % 8) = true := by simpa using x3
  clear x3 y3
  rcases hcase with ⟨hr, rfl⟩ | ⟨hr, rfl⟩
  all_goals
    go_enter Try.func3, Try.ntmps3
    go_wp2_with (first
      | (go_at_call 22; refine (pick_any _ _ _ (by omega) (by omega)).mono ?_; rintro e w' ⟨rfl, rfl⟩)
      | (go_at_call 23; refine (right_any _ _).mono ?_; rintro e w' ⟨rfl, rfl⟩)
      | (go_at_call 26; refine (owner_any _ _).mono ?_; rintro e w' ⟨rfl, rfl⟩)
      | (go_at_call 24; refine (next_any _ _ _).mono ?_; rintro e w' ⟨rfl, rfl⟩)
      | (go_at_call 25; refine (known8_any _).mono ?_; rintro e w' ⟨rfl, rfl⟩))
    go_ret
    exact ⟨by first | rfl | simp, Grown.refl _⟩
theorem walk (a0 : Int) (a1 : Int) (a2 : Int) (w0 : (Lit.int .i64 a0).wf = true) (w1 : (Lit.int .i64 a1).wf = true) (w2 : (Lit.int .i64 a2).wf = true) (w : World) :
    Calls Try.prog 3 #[.int .i64 a0, .int .i64 a1, .int .i64 a2] w fun e w' => e = .returned (.bool true) ∧ Grown w w' := by
  have p0 := Int.emod_nonneg a0 (by omega : (1073741824 : Int) ≠ 0)
  have p0' := Int.emod_lt_of_pos a0 (by omega : (0 : Int) < 1073741824)
  have p1 := Int.emod_nonneg a1 (by omega : (8 : Int) ≠ 0)
  have p1' := Int.emod_lt_of_pos a1 (by omega : (0 : Int) < 8)
  cases hr : rightB (a0 % 1073741824)
  · exact walk_of (1 + a1 % 8) a0 a1 a2 (rightB_iff.2 (by omega)) (by omega) (by omega) (.inr ⟨hr, rfl⟩) w
  · have := rightB_iff.1 hr
    exact walk_of (a0 % 1073741824) a0 a1 a2 hr (by omega) (by omega) (.inl ⟨hr, rfl⟩) w

end Go.Proofs.Ytngfimjbgopgjaa.versionRises
