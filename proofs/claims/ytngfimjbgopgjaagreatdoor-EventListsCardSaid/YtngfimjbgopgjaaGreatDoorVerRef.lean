/- Contracts of the reference's chapter 8 (cutoverref8.Owner, RightVersion, First, NextVersion), for all integers, in the same words as package version's. -/
import Derived.Test.YtngfimjbgopgjaaGreatDoorVer
namespace Go.Proofs.YtngfimjbgopgjaaGreatDoor
open Go.RowKit
set_option linter.unusedVariables false

theorem rOwner_any (v : Int) (w : World) :
    Calls Tryz.prog 89 #[.int .i64 v] w fun e w' => e = .returned (.int .i64 (v % 10)) ∧ w = w' := by
  have hb := tmod_bd v 10 (by omega)
  obtain ⟨hb1, hb2⟩ := hb
  have H : Hid ((v.tmod 10 + 10) % 10 = v % 10) := by
    show (v.tmod 10 + 10) % 10 = v % 10
    by_cases h : v.tmod 10 < 0
    · rw [tmod_neg v 10 (by omega) h]; omega
    · have := tmod_pos v 10 (by omega) (by omega); omega
  go_enter Tryz.func89, Tryz.ntmps89
  go_wp2
  go_ret
  exact ⟨by rw [H.out]; rfl, rfl⟩

theorem rRight_any (v : Int) (w : World) :
    Calls Tryz.prog 60 #[.int .i64 v] w fun e w' => e = .returned (.bool (rightB v)) ∧ w = w' := by
  have H : Hid (rightB v = (decide (1 ≤ v) && decide (v ≤ 1099511627776) && (decide (1 ≤ v % 10) && decide (v % 10 ≤ 8)))) := Lib.hid rfl
  by_cases h1 : 1 ≤ v <;> by_cases h2 : v ≤ 1099511627776 <;> by_cases h3 : 1 ≤ v % 10 <;> by_cases h4 : v % 10 ≤ 8
  all_goals
    go_enter Tryz.func60, Tryz.ntmps60
    go_wp2_with (go_at_call 89; refine (rOwner_any _ _).mono ?_; rintro e w' ⟨rfl, rfl⟩)
    all_goals
      go_ret
      exact ⟨by rw [H.out]; first | (simp [h1, h2, h3, h4]; done) | (simp; omega), rfl⟩

/-- The least number above v whose rest by ten is r. -/
def upV (v r : Int) : Int := if v - v % 10 + r ≤ v then v - v % 10 + r + 10 else v - v % 10 + r
theorem upV_facts {v r : Int} (h1 : 1 ≤ r) (h2 : r ≤ 8) : v < upV v r ∧ upV v r ≤ v + 10 ∧ upV v r % 10 = r ∧ ∀ n, v < n → n < upV v r → n % 10 ≠ r := by
  unfold upV
  split
  · exact ⟨by omega, by omega, by omega, fun n a b => by omega⟩
  · exact ⟨by omega, by omega, by omega, fun n a b => by omega⟩

def IsUp (v m : Int) (x : Value) : Prop := ∃ n : Int, v < n ∧ n ≤ m ∧ x = .int .i64 n

theorem nextV_up {v r : Int} (hr : isB r = true) (hv : v = 0 ∨ rightB v = true) : nextV v r = (if 1099511627776 < upV v r then 0 else upV v r, if 1099511627776 < upV v r then 2 else 0) := by
  rw [nextV_of hr hv]
  unfold upV
  split <;> split <;> rfl

end Go.Proofs.YtngfimjbgopgjaaGreatDoor
