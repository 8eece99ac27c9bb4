/- VersionChain: the walk of cutoverlaw8.VersionChain: it answers true, and turns no memory. -/
import Derived.Test.YtngfimjbgopgjaaVerRef
import Derived.Below
namespace Go.Proofs.Ytngfimjbgopgjaa.versionChain
open Go.RowKit
set_option linter.unusedVariables false

/-- What is told of a slice of integers that came in: nil; or a row of 'cap' cells that hold the numbers zs. -/
def IsRow (k : IntKind) (w : World) (a : Option Addr) (len cap : Nat) (zs : List Int) : Prop :=
  (a = none ∧ len = 0 ∧ cap = 0 ∧ zs = []) ∨
  ∃ x, a = some x ∧ len ≤ cap ∧ cap ≤ maxLen ∧ zs.length = cap ∧ (∀ i, i < zs.length → w.cell? (x.add i) = some (.int k (zs.getD i 0))) ∧ ∀ n ∈ zs, (Lit.int k n).wf = true

theorem next_plain (v r m : Int) (hr1 : 1 ≤ r) (hr2 : r ≤ 8) (hv : rightB v = true) (hs : v ≤ 1073741824) (hm : v + 10 ≤ m) :
    ∃ x, nextV v r = (x, 0) ∧ v < x ∧ x ≤ m ∧ (x % 10 != r) = false ∧ rightB x = true := by
  obtain ⟨v1, v2, v3, v4⟩ := rightB_iff.1 hv
  rw [nextV_of (isB_true hr1 hr2) (.inr hv)]
  by_cases h : v - v % 10 + r ≤ v
  · rw [if_pos h, if_neg (by omega)]
    exact ⟨_, rfl, by omega, by omega, by simp; omega, rightB_iff.2 (by omega)⟩
  · rw [if_neg h, if_neg (by omega)]
    exact ⟨_, rfl, by omega, by omega, by simp; omega, rightB_iff.2 (by omega)⟩

theorem cell_at {w : World} {a : Option Addr} {len cap : Nat} {zs : List Int} (h : IsRow .i64 w a len cap zs) (h0 : 0 < len) :
    ∃ b o, a = some ⟨b, o, none⟩ ∧ ∀ k, k < len → ∃ z, w.cell? ⟨b, o + k, none⟩ = some (.int .i64 z) := by
  rcases h with ⟨rfl, rfl, rfl, rfl⟩ | ⟨x, rfl, hl, hm, hz, hc, hw⟩
  · omega
  · obtain ⟨b, off, spot⟩ := x
    have h1 := hc 0 (by omega)
    have hspot : spot = none := by simpa [Addr.add] using World.cell?_spot h1
    subst hspot
    refine ⟨b, off, rfl, fun k hk => ⟨zs.getD k 0, ?_⟩⟩
    have h2 := hc k (by omega)
    by_cases hk0 : k = 0
    · subst hk0; simpa [Addr.add] using h2
    · simpa [Addr.add, hk0] using h2

/-- The versions of the chain behind k rounds. -/
def Rel (len : Nat) (v w i : Value) : Prop :=
  ∃ (k : Nat) (n : Int), k ≤ len ∧ k ≤ 50 ∧ i = .int .i64 k ∧ v = .int .i64 n ∧ w = .int .i64 n ∧ rightB n = true ∧ n ≤ 10 * ((k : Int) + 1)

set_option maxHeartbeats 4000000 in
theorem walk (a0 : Int) (a1 : Option Addr) (len1 cap1 : Nat) (z1 : List Int) (w : World) (w0 : (Lit.int .i64 a0).wf = true) (w1 : IsRow .i64 w a1 len1 cap1 z1) :
    Calls Try.prog 7 #[.int .i64 a0, .slice a1 len1 cap1] w fun e w' => e = .returned (.bool true) ∧ Below w.heap.size w w' := by
  have hlen : len1 ≤ 9223372036854775807 := by
    rcases w1 with ⟨rfl, rfl, rfl, rfl⟩ | ⟨x, rfl, hl, hm, hz, hc, hw⟩
    · omega
    · unfold maxLen at hm; omega
  have p2 := Int.emod_nonneg a0 (by omega : (8 : Int) ≠ 0)
  have p2' := Int.emod_lt_of_pos a0 (by omega : (0 : Int) < 8)
  have hf : firstV (1 + a0 % 8) = 1 + a0 % 8 := by unfold firstV; rw [if_pos (isB_true (by omega) (by omega))]
  go_enter Try.func7, Try.ntmps7
  go_wp2_with (first
          | (go_at_call 22; refine (pick_any _ _ _ (by omega) (by omega)).mono ?_; rintro e w' ⟨rfl, rfl⟩)
          | (go_at_call 26; refine (owner_any _ _).mono ?_; rintro e w' ⟨rfl, rfl⟩)
          | (go_at_call 24; refine (next_any _ _ _).mono ?_; rintro e w' ⟨rfl, rfl⟩)
          | (go_at_call 42; refine (first_any _ _).mono ?_; rintro e w' ⟨rfl, rfl⟩)
          | (go_at_call 25; refine (known8_any _).mono ?_; rintro e w' ⟨rfl, rfl⟩))
  clear hf
  go_loop [5, 6, 7] (fun v w i => Rel len1 v w i) (fun _ _ i => 50 - (intOf i).toNat)
  case atStart => exact ⟨0, _, by omega, by omega, rfl, rfl, rfl, rightB_iff.2 (by omega), by omega⟩
  case round =>
    obtain ⟨k, n, hk, hk50, rfl, rfl, rfl, hn, hn10⟩ := hrel
    have hn1 := (rightB_iff.1 hn).1
    by_cases hlt : k < len1
    · by_cases h50 : k < 50
      · obtain ⟨b, o, rfl, hcell⟩ := cell_at w1 (by omega)
        obtain ⟨z, hz⟩ := hcell k hlt
        have q2 := Int.emod_nonneg z (by omega : (8 : Int) ≠ 0)
        have q2' := Int.emod_lt_of_pos z (by omega : (0 : Int) < 8)
        obtain ⟨x, hx, x1, x2, x3, x4⟩ := next_plain n (1 + z % 8) (10 * ((k : Int) + 2)) (by omega) (by omega) hn (by omega) (by omega)
        clear hcell w1
        go_wp2_with (first
          | (go_at_call 22; refine (pick_any _ _ _ (by omega) (by omega)).mono ?_; rintro e w' ⟨rfl, rfl⟩)
          | (go_at_call 26; refine (owner_any _ _).mono ?_; rintro e w' ⟨rfl, rfl⟩)
          | (go_at_call 24; refine (next_any _ _ _).mono ?_; rintro e w' ⟨rfl, rfl⟩)
          | (go_at_call 42; refine (first_any _ _).mono ?_; rintro e w' ⟨rfl, rfl⟩)
          | (go_at_call 25; refine (known8_any _).mono ?_; rintro e w' ⟨rfl, rfl⟩))
        go_round
        case rel => exact ⟨k + 1, x, by omega, by omega, by go_num, rfl, rfl, x4, by omega⟩
        case measure => simp [intOf]; omega
      · clear w1
        go_wp2_with (first
          | (go_at_call 22; refine (pick_any _ _ _ (by omega) (by omega)).mono ?_; rintro e w' ⟨rfl, rfl⟩)
          | (go_at_call 26; refine (owner_any _ _).mono ?_; rintro e w' ⟨rfl, rfl⟩)
          | (go_at_call 24; refine (next_any _ _ _).mono ?_; rintro e w' ⟨rfl, rfl⟩)
          | (go_at_call 42; refine (first_any _ _).mono ?_; rintro e w' ⟨rfl, rfl⟩)
          | (go_at_call 25; refine (known8_any _).mono ?_; rintro e w' ⟨rfl, rfl⟩))
        go_ret
        exact ⟨rfl, Below.refl _ _⟩
    · clear w1
      go_wp2_with (first
          | (go_at_call 22; refine (pick_any _ _ _ (by omega) (by omega)).mono ?_; rintro e w' ⟨rfl, rfl⟩)
          | (go_at_call 26; refine (owner_any _ _).mono ?_; rintro e w' ⟨rfl, rfl⟩)
          | (go_at_call 24; refine (next_any _ _ _).mono ?_; rintro e w' ⟨rfl, rfl⟩)
          | (go_at_call 42; refine (first_any _ _).mono ?_; rintro e w' ⟨rfl, rfl⟩)
          | (go_at_call 25; refine (known8_any _).mono ?_; rintro e w' ⟨rfl, rfl⟩))
      go_ret
      exact ⟨rfl, Below.refl _ _⟩
end Go.Proofs.Ytngfimjbgopgjaa.versionChain
