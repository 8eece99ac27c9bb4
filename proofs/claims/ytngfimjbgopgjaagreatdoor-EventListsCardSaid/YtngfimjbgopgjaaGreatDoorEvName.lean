/- Names: contracts of event.IsName, cutoverref8.IsName and of the two Closes. -/
import Derived.Test.YtngfimjbgopgjaaGreatDoorRdKnown
namespace Go.Proofs.YtngfimjbgopgjaaGreatDoor
open Go.RowKit
set_option linter.unusedVariables false

/-- A byte that a name may hold. -/
def nameCh (c : Int) : Bool := (decide (97 ≤ c) && decide (c ≤ 122)) || (decide (48 ≤ c) && decide (c ≤ 57)) || decide (c = 45)
/-- Which texts are names. -/
def isNameB (s : ByteArray) : Bool := decide (1 ≤ s.size) && decide (s.size ≤ 16) && (strB s).all nameCh
/-- Which types close a run. -/
def closesB (k : Int) : Bool := decide (9 ≤ k) && decide (k ≤ 12)

theorem str_ne {s : ByteArray} (h : ¬ s.size = 0) : s.toList.isEmpty = false := by
  rw [ByteArray.toList_eq, List.isEmpty_eq_false_iff]
  intro e
  apply h
  have h2 : s.data.toList.length = 0 := by rw [e]; rfl
  rw [Array.length_toList] at h2
  exact h2
theorem nameCh_false {c : Int} (h1 : c < 97 ∨ 122 < c) (h2 : c < 48 ∨ 57 < c) (h3 : c ≠ 45) : nameCh c = false := by
  simp only [nameCh, Bool.or_eq_false_iff, Bool.and_eq_false_iff, decide_eq_false_iff_not]
  omega
theorem nameCh_true {c : Int} (h : (97 ≤ c ∧ c ≤ 122) ∨ (48 ≤ c ∧ c ≤ 57) ∨ c = 45) : nameCh c = true := by
  simp only [nameCh, Bool.or_eq_true, Bool.and_eq_true, decide_eq_true_eq]
  omega
theorem all_take_step {l : List Int} {k : Nat} (h : k < l.length) (h1 : (l.take k).all nameCh = true) (h2 : nameCh l[k] = true) : (l.take (k + 1)).all nameCh = true := by
  rw [List.take_add_one, List.getElem?_eq_getElem h, List.all_append, h1]
  simp [h2]
theorem all_no {l : List Int} {k : Nat} (h : k < l.length) (h2 : nameCh l[k] = false) : l.all nameCh = false := by
  rw [List.all_eq_false]
  exact ⟨l[k], List.getElem_mem _, by simp [h2]⟩

set_option maxHeartbeats 1000000 in
set_option maxRecDepth 20000 in
theorem isName_any (s : ByteArray) (w : World) (hm : s.size ≤ 140737488355328) : Calls Tryz.prog 31 #[.string s] w fun e w' => e = .returned (.bool (isNameB s)) ∧ Chg (fun _ => False) w w' := by
  have kc := fun (w : World) (s : ByteArray) => Lib.run_convert_string_bytes (P := Tryz.prog) w 9 24 5 s Tryz.underlying9 Tryz.underlying24 Tryz.underlying5
  by_cases h0 : s.size = 0
  · obtain rfl : s = { data := #[] } := by
      have : s.data.size = 0 := h0
      have h := Array.eq_empty_of_size_eq_zero this
      cases s
      simp_all
    go_enter Tryz.func31, Tryz.ntmps31
    go_wp2_with fail
    go_ret
    exact ⟨rfl, Chg.refl _ _⟩
  · have hne : s ≠ { data := #[] } := by rintro rfl; exact h0 rfl
    have m0 : s.toList.isEmpty = false := str_ne h0
    by_cases h1 : 16 < s.size
    · have g1 : (16 : Int) < (s.size : Int) := by omega
      go_enter Tryz.func31, Tryz.ntmps31
      go_wp2_with fail
      go_ret
      have : isNameB s = false := by simp only [isNameB, Bool.and_eq_false_iff, decide_eq_false_iff_not]; omega
      exact ⟨by rw [this]; rfl, Chg.refl _ _⟩
    · have g1 : ¬ (16 : Int) < (s.size : Int) := by omega
      have hl := strB_length s
      have hR := Rd.ofString w s
      have hC := Chg.ofString w s (fun _ => False)
      obtain ⟨l, hL⟩ : ∃ l, l = strB s := ⟨_, rfl⟩
      have hnm : isNameB s = l.all nameCh := by
        rw [hL]
        simp only [isNameB]
        rw [decide_eq_true (show 1 ≤ s.size by omega), decide_eq_true (show s.size ≤ 16 by omega)]
        rfl
      rw [← hL] at hl hR
      have HNM := Lib.hid hnm
      have HL := Lib.hid hl
      clear hL hnm hl
      go_enter Tryz.func31, Tryz.ntmps31
      go_wp2_with fail
      go_loopw [15] (fun i w' => ∃ k : Nat, k ≤ l.length ∧ i = .int .i64 k ∧ (l.take k).all nameCh = true ∧ w' = Lib.bytesWorld w 5 s) (fun i _ => l.length - (intOf i).toNat)
      case atStart => exact ⟨0, by omega, rfl, rfl, rfl⟩
      case round =>
        obtain ⟨k, hk, rfl, ha, rfl⟩ := hrel
        have HA := Lib.hid ha
        clear ha
        by_cases hkn : k < l.length
        · have hks : k < s.size := by have := HL.out; omega
          have u0 : (Lib.bytesWorld w 5 s).cell? ⟨w.heap.size, k, none⟩ = some (.int .u8 l[k]) := by
            have := hR.cells rfl k (.int .u8 l[k]) (by rw [List.getElem?_map, List.getElem?_eq_getElem hkn]; rfl)
            simpa using this
          obtain ⟨x, hx⟩ : ∃ x, x = l[k] := ⟨_, rfl⟩
          rw [← hx] at u0
          have HX := Lib.hid hx
          clear hx
          have n1 : (k : Int) < (s.size : Int) := by omega
          rcases (by omega : (97 ≤ x ∧ x ≤ 122) ∨ (48 ≤ x ∧ x ≤ 57) ∨ x = 45 ∨ ((x < 97 ∨ 122 < x) ∧ (x < 48 ∨ 57 < x) ∧ x ≠ 45)) with ⟨e1, e2⟩ | ⟨e1, e2⟩ | rfl | ⟨e1, e2, e3⟩
          · go_wp2_with fail
            go_roundw
            case rel => exact ⟨k + 1, by omega, by go_num, all_take_step hkn HA.out (by rw [← HX.out]; exact nameCh_true (.inl ⟨e1, e2⟩)), by first | trivial | rfl⟩
            case measure => simp [intOf]; omega
          · have e3 : x < 97 := by omega
            go_wp2_with fail
            go_roundw
            case rel => exact ⟨k + 1, by omega, by go_num, all_take_step hkn HA.out (by rw [← HX.out]; exact nameCh_true (.inr (.inl ⟨e1, e2⟩))), by first | trivial | rfl⟩
            case measure => simp [intOf]; omega
          · go_wp2_with fail
            go_roundw
            case rel => exact ⟨k + 1, by omega, by go_num, all_take_step hkn HA.out (by rw [← HX.out]; rfl), by first | trivial | rfl⟩
            case measure => simp [intOf]; omega
          · have hno : nameCh l[k] = false := by rw [← HX.out]; exact nameCh_false e1 e2 e3
            have HN := Lib.hid hno
            have d5 : decide (x = 45) = false := by simpa using e3
            have m5 : (x == 45) = false := by simpa using e3
            clear hno
            rcases (by omega : 122 < x ∨ (57 < x ∧ x < 97) ∨ x < 48) with c1 | ⟨c1, c2⟩ | c1
            · have q1 : 97 ≤ x := by omega
              have q2 : 48 ≤ x := by omega
              have q3 : 57 < x := by omega
              have t1 : decide (x ≤ 122) = false := by simpa using c1
              have t2 : decide (x ≤ 57) = false := by simpa using q3
              go_wp2_with fail
              go_ret
              exact ⟨by rw [HNM.out, all_no hkn HN.out]; rfl, hC⟩
            · have q2 : 48 ≤ x := by omega
              have t2 : decide (x ≤ 57) = false := by simpa using c1
              go_wp2_with fail
              go_ret
              exact ⟨by rw [HNM.out, all_no hkn HN.out]; rfl, hC⟩
            · have q1 : x < 97 := by omega
              go_wp2_with fail
              go_ret
              exact ⟨by rw [HNM.out, all_no hkn HN.out]; rfl, hC⟩
        · have hkn' : k = l.length := by omega
          have n1 : ¬ (k : Int) < (s.size : Int) := by have := HL.out; omega
          have hall : l.all nameCh = true := by have := HA.out; rw [hkn', List.take_length] at this; exact this
          have HALL := Lib.hid hall
          clear hall hkn'
          go_wp2_with fail
          go_ret
          exact ⟨by rw [HNM.out, HALL.out]; rfl, hC⟩

set_option maxHeartbeats 1000000 in
set_option maxRecDepth 20000 in
theorem risName_any (s : ByteArray) (w : World) (hm : s.size ≤ 140737488355328) : Calls Tryz.prog 62 #[.string s] w fun e w' => e = .returned (.bool (isNameB s)) ∧ w = w' := by
  have hl := strB_length s
  obtain ⟨l, hL⟩ : ∃ l, l = strB s := ⟨_, rfl⟩
  have hu : ∀ k (h : k < l.length) (h2 : k < s.size), (s[k].toNat : Int) = l[k] := by
    intro k h h2
    subst hL
    simp only [strB, List.getElem_map, Array.getElem_toList]
    rfl
  have hnm : isNameB s = (decide (1 ≤ s.size) && decide (s.size ≤ 16) && l.all nameCh) := by rw [hL]; rfl
  rw [← hL] at hl
  have HNM := Lib.hid hnm
  have HU := Lib.hid hu
  have HL := Lib.hid hl
  clear hnm hl hu hL
  go_enter Tryz.func62, Tryz.ntmps62
  go_wp2_with fail
  go_loopw [3] (fun i w' => ∃ k : Nat, k ≤ l.length ∧ i = .int .i64 k ∧ (l.take k).all nameCh = true ∧ w' = w) (fun i _ => l.length - (intOf i).toNat)
  case atStart => exact ⟨0, by omega, rfl, rfl, rfl⟩
  case round =>
    obtain ⟨k, hk, rfl, ha, rfl⟩ := hrel
    have HA := Lib.hid ha
    clear ha
    by_cases hkn : k < l.length
    · have hks : k < s.size := by have := HL.out; omega
      have n1 : (k : Int) < (s.size : Int) := by omega
      have n0 : (0 : Int) ≤ (k : Int) := by omega
      obtain ⟨x, hx⟩ : ∃ x : Int, (s[k].toNat : Int) = x := ⟨_, rfl⟩
      have hxl : x = l[k] := by rw [← hx]; exact HU.out k hkn hks
      have HX := Lib.hid hxl
      clear hxl
      rcases (by omega : (97 ≤ x ∧ x ≤ 122) ∨ (48 ≤ x ∧ x ≤ 57) ∨ x = 45 ∨ ((x < 97 ∨ 122 < x) ∧ (x < 48 ∨ 57 < x) ∧ x ≠ 45)) with ⟨e1, e2⟩ | ⟨e1, e2⟩ | rfl | ⟨e1, e2, e3⟩
      · go_wp2_with fail
        go_roundw
        case rel => exact ⟨k + 1, by omega, by go_num, all_take_step hkn HA.out (by rw [← HX.out]; exact nameCh_true (.inl ⟨e1, e2⟩)), by first | trivial | rfl⟩
        case measure => simp [intOf]; omega
      · have e3 : x < 97 := by omega
        go_wp2_with fail
        go_roundw
        case rel => exact ⟨k + 1, by omega, by go_num, all_take_step hkn HA.out (by rw [← HX.out]; exact nameCh_true (.inr (.inl ⟨e1, e2⟩))), by first | trivial | rfl⟩
        case measure => simp [intOf]; omega
      · go_wp2_with fail
        go_roundw
        case rel => exact ⟨k + 1, by omega, by go_num, all_take_step hkn HA.out (by rw [← HX.out]; rfl), by first | trivial | rfl⟩
        case measure => simp [intOf]; omega
      · have hno : nameCh l[k] = false := by rw [← HX.out]; exact nameCh_false e1 e2 e3
        have HN := Lib.hid hno
        have d5 : decide (x = 45) = false := by simpa using e3
        have m5 : (x == 45) = false := by simpa using e3
        clear hno
        rcases (by omega : 122 < x ∨ (57 < x ∧ x < 97) ∨ x < 48) with c1 | ⟨c1, c2⟩ | c1
        · have q1 : 97 ≤ x := by omega
          have q2 : 48 ≤ x := by omega
          have q3 : 57 < x := by omega
          have t1 : decide (x ≤ 122) = false := by simpa using c1
          have t2 : decide (x ≤ 57) = false := by simpa using q3
          go_wp2_with fail
          go_ret
          exact ⟨by rw [HNM.out, all_no hkn HN.out, Bool.and_false]; rfl, rfl⟩
        · have q2 : 48 ≤ x := by omega
          have t2 : decide (x ≤ 57) = false := by simpa using c1
          go_wp2_with fail
          go_ret
          exact ⟨by rw [HNM.out, all_no hkn HN.out, Bool.and_false]; rfl, rfl⟩
        · have q1 : x < 97 := by omega
          go_wp2_with fail
          go_ret
          exact ⟨by rw [HNM.out, all_no hkn HN.out, Bool.and_false]; rfl, rfl⟩
    · have hkn' : k = l.length := by omega
      have n1 : ¬ (k : Int) < (s.size : Int) := by have := HL.out; omega
      have hall : l.all nameCh = true := by have := HA.out; rw [hkn', List.take_length] at this; exact this
      have HALL := Lib.hid hall
      clear hall hkn'
      by_cases h1 : 1 ≤ s.size
      · have g1 : (1 : Int) ≤ (s.size : Int) := by omega
        by_cases h2 : s.size ≤ 16
        · have d2 : decide ((s.size : Int) ≤ 16) = true := by simp; omega
          go_wp2_with fail
          go_ret
          exact ⟨by rw [HNM.out, HALL.out, decide_eq_true h1, decide_eq_true h2]; rfl, rfl⟩
        · have d2 : decide ((s.size : Int) ≤ 16) = false := by simp; omega
          go_wp2_with fail
          go_ret
          exact ⟨by rw [HNM.out, HALL.out, decide_eq_true h1, decide_eq_false h2]; rfl, rfl⟩
      · have g1 : ¬ (1 : Int) ≤ (s.size : Int) := by omega
        go_wp2_with fail
        go_ret
        exact ⟨by rw [HNM.out, decide_eq_false h1]; rfl, rfl⟩
end Go.Proofs.YtngfimjbgopgjaaGreatDoor
