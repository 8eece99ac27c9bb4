/- The plain law of chapter 1: what is laid is read back. No walk. -/
import Derived.Test.YtngfimjbgopgjaaDoorRd
namespace Go.Proofs.YtngfimjbgopgjaaDoor
open Go.RowKit
set_option linter.unusedVariables false

theorem mod_step (x m : Int) (hx : 0 ≤ x) (hm : 0 < m) : x % (m * 256) = x / m % 256 * m + x % m := by
  obtain ⟨X, rfl⟩ := Int.eq_ofNat_of_zero_le hx
  obtain ⟨M, rfl⟩ := Int.eq_ofNat_of_zero_le (Int.le_of_lt hm)
  have h := Nat.mod_mul (x := X) (a := M) (b := 256)
  have h2 : ((X % (M * 256) : Nat) : Int) = ((X % M + M * (X / M % 256) : Nat) : Int) := by rw [h]
  simp only [Int.natCast_emod, Int.natCast_mul, Int.natCast_add, Int.natCast_ediv] at h2
  rw [show ((256 : Nat) : Int) = 256 from rfl] at h2
  rw [h2, Int.add_comm, Int.mul_comm (M : Int)]

theorem fold_be (x : Int) (hx : 0 ≤ x) (n : Nat) : ∀ a : Int, 0 ≤ a → (a + 1) * 256 ^ n ≤ 18446744073709551616 →
    (be x n).foldl (fun v c => IntKind.u64.wrap (v * 256) + c) a = a * 256 ^ n + x % 256 ^ n := by
  induction n with
  | zero => intro a _ _; simp [be, Int.emod_one]
  | succ n ih =>
    intro a h0 hb
    have hp : (0 : Int) < 256 ^ n := Int.pow_pos (by omega)
    have hq : (256 : Int) ^ (n + 1) = 256 ^ n * 256 := Int.pow_succ ..
    have hd0 : 0 ≤ x / 256 ^ n % 256 := by omega
    have hd1 : x / 256 ^ n % 256 < 256 := by omega
    have hb2 : (a * 256 + 256) * 256 ^ n ≤ 18446744073709551616 := by
      have e : (a + 1) * 256 ^ (n + 1) = (a * 256 + 256) * 256 ^ n := by
        rw [hq, ← Int.mul_assoc, Int.mul_right_comm, Int.add_mul]; simp
      rw [← e]; exact hb
    have hle : a * 256 + 256 ≤ 18446744073709551616 := by
      have h1 : (a * 256 + 256) * 1 ≤ (a * 256 + 256) * 256 ^ n := Int.mul_le_mul_of_nonneg_left (by omega) (by omega)
      omega
    have hw : IntKind.u64.wrap (a * 256) = a * 256 := IntWalk.u64_in _ ⟨by omega, by omega⟩
    show (be x n).foldl _ (IntKind.u64.wrap (a * 256) + x / 256 ^ n % 256) = _
    rw [hw, ih _ (by omega) ?_, hq, mod_step x _ hx hp, Int.add_mul, Int.mul_assoc a, Int.mul_comm 256 (256 ^ n), Int.add_assoc]
    refine Int.le_trans (Int.mul_le_mul_of_nonneg_right ?_ (Int.le_of_lt hp)) hb2
    omega

theorem getV_be (x : Int) (hx : 0 ≤ x) (n : Nat) (hn : n ≤ 8) : getV (be x n) = x % 256 ^ n := by
  have h := fold_be x hx n 0 (by omega) (by
    have h1 : (256 : Int) ^ n ≤ 18446744073709551616 := by
      rcases (by omega : n = 0 ∨ n = 1 ∨ n = 2 ∨ n = 3 ∨ n = 4 ∨ n = 5 ∨ n = 6 ∨ n = 7 ∨ n = 8) with rfl | rfl | rfl | rfl | rfl | rfl | rfl | rfl | rfl <;> decide
    omega)
  rw [getV, h]
  simp

theorem takeR_app (xs ys : List Int) (n : Nat) (h : xs.length = n) : takeR false (xs ++ ys) n = (xs, false, ys) := by
  unfold takeR
  rw [if_neg (by simp; omega)]
  simp [← h]

theorem numR_be (x : Int) (hx : 0 ≤ x) (n : Nat) (hn : n ≤ 8) (ys : List Int) : numR false (be x n ++ ys) n = (wrap64 (x % 256 ^ n), false, ys) := by
  rw [numR, takeR_app _ _ n (be_length x n), getV_be x hx n hn]

theorem shortR_app (xs ys : List Int) (h : xs.length ≤ 65535) : shortR false (shortB xs ++ ys) = (xs, false, ys) := by
  have h1 : numR false (be (xs.length : Int) 2 ++ (xs ++ ys)) 2 = ((xs.length : Int), false, xs ++ ys) := by
    rw [numR_be _ (by omega) 2 (by omega)]
    have e : (256 : Int) ^ 2 = 65536 := by decide
    rw [e, Int.emod_eq_of_lt (by omega) (by omega), IntWalk.wrap64_in _ ⟨by omega, by omega⟩]
  rw [shortR, shortB, List.append_assoc, h1]
  exact takeR_app xs ys xs.length rfl

/-- Bytes of numbers are bytes. -/
theorem be_byt (x : Int) (n : Nat) : ∀ z ∈ be x n, 0 ≤ z ∧ z ≤ 255 := by
  induction n with
  | zero => intro z hz; cases hz
  | succ n ih =>
    intro z hz
    rcases List.mem_cons.1 hz with rfl | hz
    · omega
    · exact ih z hz
theorem byt_app {xs ys : List Int} (h1 : ∀ z ∈ xs, 0 ≤ z ∧ z ≤ 255) (h2 : ∀ z ∈ ys, 0 ≤ z ∧ z ≤ 255) : ∀ z ∈ xs ++ ys, 0 ≤ z ∧ z ≤ 255 := by
  intro z hz
  rcases List.mem_append.1 hz with h | h
  · exact h1 z h
  · exact h2 z h
theorem shortB_byt {xs : List Int} (h : ∀ z ∈ xs, 0 ≤ z ∧ z ≤ 255) : ∀ z ∈ shortB xs, 0 ≤ z ∧ z ≤ 255 := byt_app (be_byt _ _) h
theorem numR_1 (n : Int) (ys : List Int) : numR false (be (IntKind.u64.wrap (n % 256)) 1 ++ ys) 1 = (n % 256, false, ys) := by
  rw [IntWalk.u64_in _ ⟨by omega, by omega⟩, numR_be _ (by omega) 1 (by omega)]
  simp only [Int.pow_succ, Int.pow_zero, Int.one_mul]
  rw [Int.emod_emod, IntWalk.wrap64_in _ ⟨by omega, by omega⟩]
theorem numR_2 (n : Int) (ys : List Int) : numR false (be (IntKind.u64.wrap (n % 65536)) 2 ++ ys) 2 = (n % 65536, false, ys) := by
  rw [IntWalk.u64_in _ ⟨by omega, by omega⟩, numR_be _ (by omega) 2 (by omega)]
  have e : (256 : Int) ^ 2 = 65536 := by decide
  rw [e, Int.emod_emod, IntWalk.wrap64_in _ ⟨by omega, by omega⟩]
theorem numR_8 (n : Int) (h : -9223372036854775808 ≤ n ∧ n ≤ 9223372036854775807) (ys : List Int) : numR false (be (IntKind.u64.wrap n) 8 ++ ys) 8 = (n, false, ys) := by
  have hw := IntKind.wrap_u64 n
  rw [numR_be _ (by rw [hw]; omega) 8 (by omega)]
  have e : (256 : Int) ^ 8 = 18446744073709551616 := by decide
  rw [e, hw]
  have : wrap64 (n % 18446744073709551616 % 18446744073709551616) = n := by unfold wrap64; omega
  rw [this]
end Go.Proofs.YtngfimjbgopgjaaDoor
