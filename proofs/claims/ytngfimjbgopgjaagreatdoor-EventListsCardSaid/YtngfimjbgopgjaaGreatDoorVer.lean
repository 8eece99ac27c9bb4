/- Contracts of cutoverhand.Pick and of package version (is, Owner, Right, First, Next), for all integers; each function only computes. -/
import Derived.Test.YtngfimjbgopgjaaGreatDoorChecked
import Derived.WalkKit
import Derived.WalkLawsBesides
import Derived.IntWalk
import Derived.Handy
import Derived.Lib.Hide
import Derived.Outline
namespace Go.Proofs.YtngfimjbgopgjaaGreatDoor
open Go.RowKit
set_option linter.unusedVariables false

/-! ### plain facts -/
theorem tmod_neg (n m : Int) (hm : 0 < m) (h : n.tmod m < 0) : n.tmod m + m = n % m := by
  have e := @Int.tmod_eq_emod n m
  have h1 := Int.emod_nonneg n (by omega : m ≠ 0)
  split at e <;> omega
theorem tmod_pos (n m : Int) (hm : 0 < m) (h : 0 ≤ n.tmod m) : n.tmod m = n % m := by
  have e := @Int.tmod_eq_emod n m
  have h1 := Int.emod_lt_of_pos n hm
  split at e <;> omega
theorem tmod_bd (n m : Int) (hm : 0 < m) : -m < n.tmod m ∧ n.tmod m < m := by
  have e := @Int.tmod_eq_emod n m
  have h1 := Int.emod_lt_of_pos n hm
  have h2 := Int.emod_nonneg n (by omega : m ≠ 0)
  have h3 : (if 0 ≤ n ∨ m ∣ n then (0 : Int) else m.natAbs) = if 0 ≤ n ∨ m ∣ n then 0 else m := by split <;> omega
  by_cases hz : n % m = 0
  · have : m ∣ n := Int.dvd_of_emod_eq_zero hz
    rw [if_pos (.inr this)] at e
    omega
  · split at e <;> omega

/-- The rest of n by m, from 0 on. -/
theorem pick_any (n m : Int) (w : World) (hm : 1 ≤ m) (hm2 : m ≤ 4611686018427387904) :
    Calls Tryz.prog 5 #[.int .i64 n, .int .i64 m] w fun e w' => e = .returned (.int .i64 (n % m)) ∧ w = w' := by
  have hb := tmod_bd n m (by omega)
  obtain ⟨hb1, hb2⟩ := hb
  by_cases h : n.tmod m < 0
  · have H := Lib.hid (tmod_neg n m (by omega) h)
    go_enter Tryz.func5, Tryz.ntmps5
    go_wp2
    go_ret
    exact ⟨by rw [H.out]; rfl, rfl⟩
  · have H := Lib.hid (tmod_pos n m (by omega) (by omega))
    go_enter Tryz.func5, Tryz.ntmps5
    go_wp2
    go_ret
    exact ⟨by rw [H.out]; rfl, rfl⟩

/-- Owner. -/
theorem owner_any (v : Int) (w : World) :
    Calls Tryz.prog 87 #[.int .i64 v] w fun e w' => e = .returned (.int .i64 (v % 10)) ∧ w = w' := by
  have hb := tmod_bd v 10 (by omega)
  obtain ⟨hb1, hb2⟩ := hb
  have H : Hid ((v.tmod 10 + 10) % 10 = v % 10) := by
    show (v.tmod 10 + 10) % 10 = v % 10
    by_cases h : v.tmod 10 < 0
    · rw [tmod_neg v 10 (by omega) h]; omega
    · have := tmod_pos v 10 (by omega) (by omega); omega
  go_enter Tryz.func87, Tryz.ntmps87
  go_wp2
  go_ret
  exact ⟨by rw [H.out]; rfl, rfl⟩

def isB (r : Int) : Bool := decide (1 ≤ r) && decide (r ≤ 8)
theorem isB_true {r : Int} (h1 : 1 ≤ r) (h2 : r ≤ 8) : isB r = true := by simp [isB, h1, h2]
theorem isB_iff {r : Int} : isB r = true ↔ 1 ≤ r ∧ r ≤ 8 := by simp [isB]
theorem isB_false {r : Int} : isB r = false ↔ r < 1 ∨ 8 < r := by
  simp only [isB, Bool.and_eq_false_iff, decide_eq_false_iff_not]; omega

theorem is_any (r : Int) (w : World) :
    Calls Tryz.prog 86 #[.int .i64 r] w fun e w' => e = .returned (.bool (isB r)) ∧ w = w' := by
  have H : Hid (isB r = (decide (1 ≤ r) && decide (r ≤ 8))) := Lib.hid rfl
  by_cases h1 : 1 ≤ r <;> by_cases h2 : r ≤ 8
  all_goals
    go_enter Tryz.func86, Tryz.ntmps86
    go_wp2
    go_ret
    exact ⟨by rw [H.out]; simp [h1, h2], rfl⟩

def rightB (v : Int) : Bool := decide (1 ≤ v) && decide (v ≤ 1099511627776) && isB (v % 10)
theorem rightB_iff {v : Int} : rightB v = true ↔ 1 ≤ v ∧ v ≤ 1099511627776 ∧ 1 ≤ v % 10 ∧ v % 10 ≤ 8 := by
  simp [rightB, isB_iff, and_assoc]
theorem rightB_false {v : Int} : rightB v = false ↔ v < 1 ∨ 1099511627776 < v ∨ v % 10 < 1 ∨ 8 < v % 10 := by
  rw [← Bool.not_eq_true, rightB_iff]; omega

theorem right_any (v : Int) (w : World) :
    Calls Tryz.prog 56 #[.int .i64 v] w fun e w' => e = .returned (.bool (rightB v)) ∧ w = w' := by
  have H : Hid (rightB v = (decide (1 ≤ v) && decide (v ≤ 1099511627776) && isB (v % 10))) := Lib.hid rfl
  by_cases h1 : 1 ≤ v <;> by_cases h2 : v ≤ 1099511627776
  all_goals
    go_enter Tryz.func56, Tryz.ntmps56
    go_wp2_with (first
      | (go_at_call 87; refine (owner_any _ _).mono ?_; rintro e w' ⟨rfl, rfl⟩)
      | (go_at_call 86; refine (is_any _ _).mono ?_; rintro e w' ⟨rfl, rfl⟩))
    go_ret
    exact ⟨by rw [H.out]; first | (simp [h1, h2]; done) | (simp; omega), rfl⟩

/-- What Next answers: the version and the error's number. -/
def nextV (v r : Int) : Int × Int :=
  if isB r = false ∨ v ≠ 0 ∧ rightB v = false then (0, 1)
  else
    let n := v - v % 10 + r
    let m := if n ≤ v then n + 10 else n
    if 1099511627776 < m then (0, 2) else (m, 0)

theorem nextV_arg {v r : Int} (h : isB r = false ∨ v ≠ 0 ∧ rightB v = false) : nextV v r = (0, 1) := by simp [nextV, h]
theorem nextV_of {v r : Int} (hr : isB r = true) (hv : v = 0 ∨ rightB v = true) :
    nextV v r = if 1099511627776 < (if v - v % 10 + r ≤ v then v - v % 10 + r + 10 else v - v % 10 + r) then (0, 2) else ((if v - v % 10 + r ≤ v then v - v % 10 + r + 10 else v - v % 10 + r), 0) := by
  have h : ¬ (isB r = false ∨ v ≠ 0 ∧ rightB v = false) := by
    rintro (h | ⟨h, h'⟩)
    · rw [hr] at h; cases h
    · rcases hv with hv | hv
      · exact h hv
      · rw [hv] at h'; cases h'
  unfold nextV
  rw [if_neg h]

def firstV (r : Int) : Int := if isB r = true then r else 0
theorem nextV_1_2 : nextV 1 2 = (2, 0) := by decide
theorem nextV_12_2 : nextV 12 2 = (22, 0) := by decide
theorem nextV_12_1 : nextV 12 1 = (21, 0) := by decide

end Go.Proofs.YtngfimjbgopgjaaGreatDoor
