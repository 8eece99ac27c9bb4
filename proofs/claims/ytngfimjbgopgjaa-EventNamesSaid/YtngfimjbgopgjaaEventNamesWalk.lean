/- EventNames: the walk of cutoverlaw10.EventNames. -/
import Derived.Test.YtngfimjbgopgjaaEvSame
import Derived.Test.YtngfimjbgopgjaaArgs
namespace Go.Proofs.Ytngfimjbgopgjaa.eventNames
open Go.RowKit
set_option linter.unusedVariables false

theorem app_size (a b : ByteArray) : (a ++ b).size = a.size + b.size := ByteArray.size_append

set_option maxHeartbeats 2000000 in
set_option maxRecDepth 20000 in
/-- What follows the loop, at any text. -/
theorem walk (w : World) (s : ByteArray) (_h : s.size ≤ maxLen) (hs : s.size ≤ 140737488351232) (a1 : Option Addr) (len1 cap1 : Nat) (h1 : Ints w a1 len1 cap1) (near : Bool) (kind : Int) (_h3 : (Lit.int .i64 kind).wf = true) : Calls Try.prog 20 #[.string s, .slice a1 len1 cap1, .bool near, .int .i64 kind] w (SaysTrue w) := by
  obtain ⟨zs, hzl, hlc, hcm, hmost, hrd, _⟩ := h1
  have hl2 : len1 ≤ 9223372036854775807 := by simp only [maxLen] at hcm; omega
  have HRD := Lib.hid hrd
  have HZ := Lib.hid hzl
  clear hrd hzl _h3 _h
  cases near
  · go_enter Try.func20, Try.ntmps20
    go_wp2_with (first
      | (go_at_call 91; go_must (refine (known10_any _).mono ?_; rintro e w2 ⟨rfl, hc2⟩))
      | (go_at_call 92; go_must (refine (isName_any s _ (by omega)).mono ?_; rintro e w3 ⟨rfl, hc3⟩))
      | (go_at_call 93; go_must (refine (risName_any s _ (by omega)).mono ?_; rintro e w' ⟨rfl, rfl⟩))
      | (go_at_call 94; go_must (refine (closes_any kind _).mono ?_; rintro e w' ⟨rfl, rfl⟩))
      | (go_at_call 95; go_must (refine (rcloses_any kind _).mono ?_; rintro e w' ⟨rfl, rfl⟩)))
    go_ret
    exact ⟨by simp, hc2.trans hc3 (fun x hx => hx.elim)⟩
  · go_enter Try.func20, Try.ntmps20
    go_wp2_with fail
    go_loopw [0, 9] (fun v i w' => ∃ k : Nat, k ≤ len1 ∧ k ≤ 18 ∧ i = .int .i64 k ∧ (∃ t : ByteArray, t.size = k ∧ v = .string t) ∧ w' = w) (fun _ i _ => 18 - (intOf i).toNat)
    case atStart => exact ⟨0, by omega, by omega, rfl, ⟨_, rfl, rfl⟩, rfl⟩
    case round =>
      obtain ⟨k, hk, hk18, rfl, ⟨t, hts, rfl⟩, rfl⟩ := hrel
      by_cases hkn : k < len1
      · by_cases h18 : k < 18
        · obtain ⟨b, o, rfl, hq⟩ := HRD.out.at_ (k := k) (by rw [List.length_map, HZ.out]; exact hkn)
          rw [List.getElem_map] at hq
          obtain ⟨x, hx⟩ : ∃ x, x = zs[k]'(by rw [HZ.out]; exact hkn) := ⟨_, rfl⟩
          rw [← hx] at hq
          clear hx
          obtain ⟨y, hy⟩ : ∃ y, y = x % 9 := ⟨_, rfl⟩
          have hy9 : 0 ≤ y ∧ y < 9 := by omega
          have hP : ∀ w', Calls Try.prog 22 #[.int .i64 x, .int .i64 9] w' fun e w'' => e = .returned (.int .i64 y) ∧ w' = w'' := fun w' => by rw [hy]; exact pick_any _ _ w' (by omega) (by omega)
          clear hy
          have h9 : (Try.prog.types[9]'(of_decide_eq_true (by kernel_rfl))).size = 1 := by kernel_rfl
          rcases (by omega : y = 0 ∨ y = 1 ∨ y = 2 ∨ y = 3 ∨ y = 4 ∨ y = 5 ∨ y = 6 ∨ y = 7 ∨ y = 8) with rfl | rfl | rfl | rfl | rfl | rfl | rfl | rfl | rfl
          all_goals
            go_wp2_with (go_at_call 22; go_must (refine (hP _).mono ?_; rintro e w' ⟨rfl, rfl⟩))
            rename_i K2 aK
            refine aK _ _ ?_
            simp only [h9, Nat.mul_one]
            go_wp2_with fail
            go_roundw
            case rel => exact ⟨k + 1, by omega, by omega, by go_num, ⟨_, by rw [app_size, hts]; rfl, rfl⟩, by first | trivial | rfl⟩
            case measure => simp [intOf]; omega
        · go_wp2_with (first
            | (go_at_call 91; go_must (refine (known10_any _).mono ?_; rintro e w2 ⟨rfl, hc2⟩))
            | (go_at_call 92; go_must (refine (isName_any t _ (by omega)).mono ?_; rintro e w3 ⟨rfl, hc3⟩))
            | (go_at_call 93; go_must (refine (risName_any t _ (by omega)).mono ?_; rintro e w' ⟨rfl, rfl⟩))
            | (go_at_call 94; go_must (refine (closes_any kind _).mono ?_; rintro e w' ⟨rfl, rfl⟩))
            | (go_at_call 95; go_must (refine (rcloses_any kind _).mono ?_; rintro e w' ⟨rfl, rfl⟩)))
          go_ret
          exact ⟨by simp, hc2.trans hc3 (fun x hx => hx.elim)⟩
      · go_wp2_with (first
          | (go_at_call 91; go_must (refine (known10_any _).mono ?_; rintro e w2 ⟨rfl, hc2⟩))
          | (go_at_call 92; go_must (refine (isName_any t _ (by omega)).mono ?_; rintro e w3 ⟨rfl, hc3⟩))
          | (go_at_call 93; go_must (refine (risName_any t _ (by omega)).mono ?_; rintro e w' ⟨rfl, rfl⟩))
          | (go_at_call 94; go_must (refine (closes_any kind _).mono ?_; rintro e w' ⟨rfl, rfl⟩))
          | (go_at_call 95; go_must (refine (rcloses_any kind _).mono ?_; rintro e w' ⟨rfl, rfl⟩)))
        go_ret
        exact ⟨by simp, hc2.trans hc3 (fun x hx => hx.elim)⟩
end Go.Proofs.Ytngfimjbgopgjaa.eventNames
