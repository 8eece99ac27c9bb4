/- Contract of cutoverhand.Version. -/
import Derived.Test.YtngfimjbgopgjaaGreatDoorVer
import Derived.Lib.Hide
namespace Go.Proofs.YtngfimjbgopgjaaGreatDoor
open Go.RowKit
set_option linter.unusedVariables false

/-- The next version of one of the regions 1 to 4. -/
def nextGood (v : Int) : Int := if (v + 1) % 10 < 1 then v + 2 else if 4 < (v + 1) % 10 then v + 1 + (11 - (v + 1) % 10) else v + 1
def isGood (v : Int) : Prop := 1 ≤ v % 10 ∧ v % 10 ≤ 4
theorem nextGood_facts (v : Int) : v < nextGood v ∧ nextGood v ≤ v + 7 ∧ isGood (nextGood v) ∧ ∀ n, v < n → n < nextGood v → n % 10 < 1 ∨ 4 < n % 10 := by
  unfold nextGood isGood
  split
  · refine ⟨by omega, by omega, by omega, fun n h1 h2 => by omega⟩
  · split
    · refine ⟨by omega, by omega, by omega, fun n h1 h2 => by omega⟩
    · refine ⟨by omega, by omega, by omega, fun n h1 h2 => by omega⟩
def iterG : Nat → Int → Int
  | 0, v => v
  | k + 1, v => nextGood (iterG k v)
theorem iterG_bd (k : Nat) (v : Int) : v ≤ iterG k v ∧ iterG k v ≤ v + 7 * k := by
  induction k with
  | zero => simp [iterG]
  | succ k ih => have := nextGood_facts (iterG k v); simp only [iterG]; omega
theorem iterG_good (k : Nat) (v : Int) (h : 0 < k) : v < iterG k v ∧ isGood (iterG k v) := by
  obtain ⟨k, rfl⟩ : ∃ j, k = j + 1 := ⟨k - 1, by omega⟩
  have h1 := nextGood_facts (iterG k v)
  have h2 := iterG_bd k v
  simp only [iterG]
  exact ⟨by omega, h1.2.2.1⟩
def hverV (was n : Int) : Int := iterG (n % 3).toNat was

set_option maxHeartbeats 2000000 in
theorem hVersion_any (was n : Int) (w : World) (h1 : 1 ≤ was) (h2 : was ≤ 2199023255552) :
    Calls Tryz.prog 17 #[.int .i64 was, .int .i64 n] w fun e w' => e = .returned (.int .i64 (hverV was n)) ∧ w = w' := by
  have p1 := Int.emod_nonneg n (by omega : (3 : Int) ≠ 0)
  have p2 := Int.emod_lt_of_pos n (by omega : (0 : Int) < 3)
  obtain ⟨p, hp⟩ : ∃ p, p = (n % 3).toNat := ⟨_, rfl⟩
  have hp2 : p ≤ 2 := by omega
  have hpn : n % 3 = (p : Int) := by omega
  have HV : Hid (hverV was n = iterG p was) := Lib.hid (by rw [hp]; rfl)
  clear hp p1 p2
  go_enter Tryz.func17, Tryz.ntmps17
  go_wp2_with fail
  go_loop [5, 6] (fun v i => ∃ k : Nat, k ≤ p ∧ i = .int .i64 k ∧ v = .int .i64 (iterG k was)) (fun _ i => p - (intOf i).toNat)
  case atStart => exact ⟨0, by omega, rfl, rfl⟩
  case round =>
    obtain ⟨k, hk, rfl, rfl⟩ := hrel
    obtain ⟨b1, b2⟩ := iterG_bd k was
    by_cases hkp : k < p
    · have hn : Hid (iterG (k + 1) was = nextGood (iterG k was)) := Lib.hid rfl
      obtain ⟨u1, u2, u3, u4⟩ := nextGood_facts (iterG k was)
      generalize iterG k was = v at *
      generalize nextGood v = m at *
      have U3 := Lib.hid u3
      have U4 := Lib.hid u4
      clear u3 u4
      go_wp2_with (go_at_call 5; refine (pick_any _ _ _ (by omega) (by omega)).mono ?_; rintro e w' ⟨rfl, rfl⟩; rw [hpn])
      go_loop [5] (fun x => ∃ y : Int, v < y ∧ y ≤ m ∧ x = .int .i64 y) (fun x => (m - intOf x).toNat)
      case atStart => exact ⟨v + 1, by omega, by omega, rfl⟩
      case round =>
        obtain ⟨y, y1, y2, rfl⟩ := hrel
        have y3 : 0 ≤ y := by omega
        have y4 : y.tmod 10 = y % 10 := Int.tmod_eq_emod_of_nonneg y3
        have y5 := Int.emod_nonneg y (by omega : (10 : Int) ≠ 0)
        have y6 := Int.emod_lt_of_pos y (by omega : (0 : Int) < 10)
        by_cases hy : y < m
        · rcases U4.out y y1 hy with hb | hb
          all_goals
            go_wp2_with fail
            go_round
            case rel => exact ⟨y + 1, by omega, by omega, by go_num⟩
            case measure => simp [intOf]; omega
        · have e : y = m := by omega
          obtain ⟨g1, g2⟩ := U3.out
          rw [← e] at g1 g2
          go_wp2_with fail
          go_round
          case rel => exact ⟨k + 1, by omega, by go_num, by first | rw [hn.out] | rw [hn.out, e]⟩
          case measure => simp [intOf]; omega
    · have hkp' : k = p := by omega
      subst hkp'
      have hle : ¬ iterG k was < 1 := by omega
      have HI : Hid (hverV was n = iterG k was) := HV
      generalize iterG k was = v at *
      go_wp2_with (go_at_call 5; refine (pick_any _ _ _ (by omega) (by omega)).mono ?_; rintro e w' ⟨rfl, rfl⟩; rw [hpn])
      go_ret
      exact ⟨by rw [HI.out]; rfl, rfl⟩
end Go.Proofs.YtngfimjbgopgjaaGreatDoor
