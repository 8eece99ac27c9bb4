/- Contracts of the reference's chapter 8 (cutoverref8.Owner, RightVersion, First, NextVersion), for all integers, in the same words as package version's. -/
import Derived.Test.YtngfimjbgopgjaaVer
namespace Go.Proofs.Ytngfimjbgopgjaa
open Go.RowKit
set_option linter.unusedVariables false

theorem rOwner_any (v : Int) (w : World) :
    Calls Try.prog 45 #[.int .i64 v] w fun e w' => e = .returned (.int .i64 (v % 10)) ∧ w = w' := by
  have hb := tmod_bd v 10 (by omega)
  obtain ⟨hb1, hb2⟩ := hb
  have H : Hid ((v.tmod 10 + 10) % 10 = v % 10) := by
    show (v.tmod 10 + 10) % 10 = v % 10
    by_cases h : v.tmod 10 < 0
    · rw [tmod_neg v 10 (by omega) h]; omega
    · have := tmod_pos v 10 (by omega) (by omega); omega
  go_enter Try.func45, Try.ntmps45
  go_wp2
  go_ret
  exact ⟨by rw [H.out]; rfl, rfl⟩

theorem rRight_any (v : Int) (w : World) :
    Calls Try.prog 44 #[.int .i64 v] w fun e w' => e = .returned (.bool (rightB v)) ∧ w = w' := by
  have H : Hid (rightB v = (decide (1 ≤ v) && decide (v ≤ 1099511627776) && (decide (1 ≤ v % 10) && decide (v % 10 ≤ 8)))) := Lib.hid rfl
  by_cases h1 : 1 ≤ v <;> by_cases h2 : v ≤ 1099511627776 <;> by_cases h3 : 1 ≤ v % 10 <;> by_cases h4 : v % 10 ≤ 8
  all_goals
    go_enter Try.func44, Try.ntmps44
    go_wp2_with (go_at_call 45; refine (rOwner_any _ _).mono ?_; rintro e w' ⟨rfl, rfl⟩)
    all_goals
      go_ret
      exact ⟨by rw [H.out]; first | (simp [h1, h2, h3, h4]; done) | (simp; omega), rfl⟩

theorem rFirst_any (r : Int) (w : World) :
    Calls Try.prog 46 #[.int .i64 r] w fun e w' => e = .returned (.int .i64 (firstV r)) ∧ w = w' := by
  by_cases h1 : r < 1
  · have H := Lib.hid (show firstV r = 0 by unfold firstV; rw [if_neg (by rw [isB_iff]; omega)])
    go_enter Try.func46, Try.ntmps46
    go_wp2
    go_ret
    exact ⟨by rw [H.out]; rfl, rfl⟩
  · by_cases h2 : 8 < r
    · have H := Lib.hid (show firstV r = 0 by unfold firstV; rw [if_neg (by rw [isB_iff]; omega)])
      go_enter Try.func46, Try.ntmps46
      go_wp2
      go_ret
      exact ⟨by rw [H.out]; rfl, rfl⟩
    · have H := Lib.hid (show firstV r = r by unfold firstV; rw [if_pos (by rw [isB_iff]; omega)])
      go_enter Try.func46, Try.ntmps46
      go_wp2
      go_ret
      exact ⟨by rw [H.out]; rfl, rfl⟩

/-- The least number above v whose rest by ten is r. -/
def upV (v r : Int) : Int := if v - v % 10 + r ≤ v then v - v % 10 + r + 10 else v - v % 10 + r
theorem upV_facts {v r : Int} (h1 : 1 ≤ r) (h2 : r ≤ 8) : v < upV v r ∧ upV v r ≤ v + 10 ∧ upV v r % 10 = r ∧ ∀ n, v < n → n < upV v r → n % 10 ≠ r := by
  unfold upV
  split
  · exact ⟨by omega, by omega, by omega, fun n a b => by omega⟩
  · exact ⟨by omega, by omega, by omega, fun n a b => by omega⟩

theorem rNext_arg1 (v r : Int) (w : World) (h : r < 1 ∨ 8 < r) :
    Calls Try.prog 43 #[.int .i64 v, .int .i64 r] w fun e w' => e = .returned (.tuple #[.int .i64 0, .int .i64 1]) ∧ w = w' := by
  rcases h with h | h
  · go_enter Try.func43, Try.ntmps43
    go_wp2
    go_ret2
    exact ⟨rfl, rfl⟩
  · have h' : ¬ r < 1 := by omega
    go_enter Try.func43, Try.ntmps43
    go_wp2
    go_ret2
    exact ⟨rfl, rfl⟩

theorem rNext_arg2 (v r : Int) (w : World) (h1 : 1 ≤ r) (h2 : r ≤ 8) (hz : v ≠ 0) (hv : rightB v = false) :
    Calls Try.prog 43 #[.int .i64 v, .int .i64 r] w fun e w' => e = .returned (.tuple #[.int .i64 0, .int .i64 1]) ∧ w = w' := by
  have d1 : decide (r < 1) = false := by simp; omega
  have d2 : decide (8 < r) = false := by simp; omega
  have d3 : (v != 0) = true := by simpa using hz
  go_enter Try.func43, Try.ntmps43
  go_wp2_with (go_at_call 44; refine (rRight_any _ _).mono ?_; rintro e w' ⟨rfl, rfl⟩)
  go_ret2
  exact ⟨rfl, rfl⟩

def IsUp (v m : Int) (x : Value) : Prop := ∃ n : Int, v < n ∧ n ≤ m ∧ x = .int .i64 n

set_option maxHeartbeats 1000000 in
theorem rNext_loop (v r : Int) (w : World) (h1 : 1 ≤ r) (h2 : r ≤ 8) (h0 : 0 ≤ v) (hm : v ≤ 1099511627776) (hv : v = 0 ∨ v ≠ 0 ∧ rightB v = true) :
    Calls Try.prog 43 #[.int .i64 v, .int .i64 r] w fun e w' => e = .returned (.tuple #[.int .i64 (if 1099511627776 < upV v r then 0 else upV v r), .int .i64 (if 1099511627776 < upV v r then 2 else 0)]) ∧ w = w' := by
  obtain ⟨u1, u2, u3, u4⟩ := upV_facts (v := v) h1 h2
  generalize upV v r = m at *
  have U3 := Lib.hid u3
  have U4 := Lib.hid u4
  clear u3 u4
  have d1 : decide (r < 1) = false := by simp; omega
  have d2 : decide (8 < r) = false := by simp; omega
  have core : ∀ d3 : Bool, (v != 0) = d3 → (v = 0 ∨ rightB v = true) → Calls Try.prog 43 #[.int .i64 v, .int .i64 r] w fun e w' => e = .returned (.tuple #[.int .i64 (if 1099511627776 < m then 0 else m), .int .i64 (if 1099511627776 < m then 2 else 0)]) ∧ w = w' := by
    intro d3 hd3 hvv
    cases d3
    case' true =>
      have hz : v ≠ 0 := by simpa using hd3
      have hv := hvv.resolve_left hz
    all_goals
      clear hvv
      go_enter Try.func43, Try.ntmps43
      go_wp2_with (go_at_call 44; refine (rRight_any _ _).mono ?_; rintro e w' ⟨rfl, rfl⟩)
      go_loop [6] (fun x => IsUp v m x) (fun x => (m - intOf x).toNat)
      case atStart => exact ⟨v + 1, by omega, by omega, rfl⟩
      case round =>
        obtain ⟨n, n1, n2, rfl⟩ := hrel
        by_cases hn : n < m
        · have hne : (n % 10 != r) = true := by simpa using U4.out n n1 hn
          go_wp2
          go_round
          case rel => exact ⟨n + 1, by omega, by omega, rfl⟩
          case measure => simp [intOf]; omega
        · have hne : (n % 10 != r) = false := by
            have : n = m := by omega
            have := U3.out
            subst n
            simpa using this
          by_cases hg : 1099511627776 < n
          all_goals
            go_wp2
            go_ret2
            have : n = m := by omega
            subst n
            exact ⟨by first | rfl | (simp only [if_pos hg]; rfl) | (simp only [if_neg (show ¬ 1099511627776 < m by omega)]; rfl), rfl⟩
  rcases hv with hv | ⟨hz, hv⟩
  · exact core _ rfl (.inl hv)
  · exact core _ rfl (.inr hv)

theorem nextV_up {v r : Int} (hr : isB r = true) (hv : v = 0 ∨ rightB v = true) : nextV v r = (if 1099511627776 < upV v r then 0 else upV v r, if 1099511627776 < upV v r then 2 else 0) := by
  rw [nextV_of hr hv]
  unfold upV
  split <;> split <;> rfl

theorem rNext_any (v r : Int) (w : World) :
    Calls Try.prog 43 #[.int .i64 v, .int .i64 r] w fun e w' => e = .returned (.tuple #[.int .i64 (nextV v r).1, .int .i64 (nextV v r).2]) ∧ w = w' := by
  cases hi : isB r
  · rw [nextV_arg (.inl hi)]
    exact rNext_arg1 v r w (isB_false.1 hi)
  · obtain ⟨r1, r2⟩ := isB_iff.1 hi
    by_cases hz : v = 0
    · rw [nextV_up hi (.inl hz)]
      exact rNext_loop v r w r1 r2 (by omega) (by omega) (.inl hz)
    · cases hv : rightB v
      · rw [nextV_arg (.inr ⟨hz, hv⟩)]
        exact rNext_arg2 v r w r1 r2 hz hv
      · obtain ⟨a, b, _, _⟩ := rightB_iff.1 hv
        rw [nextV_up hi (.inr hv)]
        exact rNext_loop v r w r1 r2 (by omega) (by omega) (.inr ⟨hz, hv⟩)
end Go.Proofs.Ytngfimjbgopgjaa
