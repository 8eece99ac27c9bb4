/- Contracts of slices.Equal over bytes, and of items.Read at the bytes of two items. -/
import Derived.Test.YtngfimjbgopgjaaDoorItLay
import Derived.Test.YtngfimjbgopgjaaDoorEv
namespace Go.Proofs.YtngfimjbgopgjaaDoor
open Go.RowKit
set_option linter.unusedVariables false

set_option maxHeartbeats 1000000 in
theorem equalB_any (A B : Option Addr) (n m c d : Nat) (l l' : List Int) (w : World) (ha : Rd w A (l.map (Value.int .u8))) (hb : Rd w B (l'.map (Value.int .u8))) (hn : l.length = n) (hm : l'.length = m) (hn2 : n ≤ 1048576) (hm2 : m ≤ 1048576) :
    Calls Tryd.prog 59 #[.slice A n c, .slice B m d] w fun e w' => e = .returned (.bool (decide (l = l'))) ∧ Chg (fun _ => False) w w' := by
  subst hn hm
  have HA := Lib.hid ha
  have HB := Lib.hid hb
  clear ha hb
  by_cases hlen : l.length = l'.length
  · have hd : decide (l.length = l'.length) = true := by simpa using hlen
    go_enter Tryd.func59, Tryd.ntmps59
    go_wp2_with fail
    go_loopw [13] (fun i wr => ∃ k : Nat, k ≤ l.length ∧ i = .int .i64 k ∧ l.take k = l'.take k ∧ Chg (fun _ => False) w wr) (fun i _ => l.length - (intOf i).toNat)
    case atStart => exact ⟨0, by omega, rfl, by simp, Chg.refl _ _⟩
    case round =>
      obtain ⟨k, hk, rfl, ht, hc⟩ := hrel
      by_cases hkn : k < l.length
      · have hkm : k < l'.length := by omega
        obtain ⟨b, o, rfl, hq⟩ := (HA.out.keep hc (fun _ _ h => h)).at_ (k := k) (by simpa using hkn)
        obtain ⟨b', o', rfl, hq'⟩ := (HB.out.keep hc (fun _ _ h => h)).at_ (k := k) (by simpa using hkm)
        rw [List.getElem_map] at hq hq'
        obtain ⟨x, hx⟩ : ∃ x, x = l[k] := ⟨_, rfl⟩
        obtain ⟨y, hy⟩ : ∃ y, y = l'[k] := ⟨_, rfl⟩
        rw [← hx] at hq
        rw [← hy] at hq'
        have HX := Lib.hid hx
        have HY := Lib.hid hy
        have HT := Lib.hid ht
        clear hx hy ht
        by_cases hxy : x = y
        · subst hxy
          have hb : (x != x) = false := by simp
          go_wp2_with fail
          go_quiet (fail)
          go_wp2_with fail
          go_roundw
          case rel => exact ⟨k + 1, by omega, by go_num, by rw [List.take_add_one, List.take_add_one, HT.out, List.getElem?_eq_getElem hkn, List.getElem?_eq_getElem hkm, ← HX.out, ← HY.out], hc.drewN _⟩
          case measure => simp [intOf]; omega
        · have hne : l ≠ l' := by
            intro e
            subst e
            exact hxy (HX.out.trans HY.out.symm)
          have HE := Lib.hid hne
          have hb : (x != y) = true := by simpa using hxy
          have hb2 : decide (x = y) = false := by simpa using hxy
          clear hne
          go_wp2_with fail
          go_quiet (fail)
          go_wp2_with fail
          go_ret
          exact ⟨by rw [decide_eq_false HE.out]; rfl, hc.drewN _⟩
      · have hkn' : k = l.length := by omega
        subst hkn'
        have hll : l = l' := by
          rw [List.take_of_length_le (Nat.le_refl _), List.take_of_length_le (by omega)] at ht
          exact ht
        have HE := Lib.hid hll
        clear hll ht
        go_wp2_with fail
        go_ret
        exact ⟨by rw [decide_eq_true HE.out]; rfl, hc⟩
  · have hd : decide (l.length = l'.length) = false := by simpa using hlen
    go_enter Tryd.func59, Tryd.ntmps59
    go_wp2_with fail
    go_ret
    exact ⟨by rw [decide_eq_false (fun e => hlen (by rw [e]))]; rfl, Chg.refl _ _⟩

/-- The two items of chapter 9's example, and their bytes. -/
def exL : List It := [(3, 1), (5, 12)]
def exB : List Int := [0, 2, 0, 3, 0, 0, 0, 0, 0, 0, 0, 1, 0, 5, 0, 0, 0, 0, 0, 0, 0, 12]
theorem exL_lay : layB exL = exB := by simp [layB, itB, exL, exB, be, IntKind.wrap_u64]
/-- What is left behind the first k items. -/
def exR (t : List Int) (k : Nat) : List Int := (exB ++ t).drop (2 + 10 * k)
theorem ex_nums (t : List Int) (ht : t = [] ∨ t = [0]) : numR false (exB ++ t) 2 = (2, false, exR t 0) ∧
    ∀ k, k < 2 → numR false (exR t k) 2 = ((exL.getD k (0, 0)).1, false, (exR t k).drop 2) ∧ numR false ((exR t k).drop 2) 8 = ((exL.getD k (0, 0)).2, false, exR t (k + 1)) := by
  rcases ht with rfl | rfl
  · refine ⟨by kernel_rfl, fun k hk => ?_⟩
    match k, hk with
    | 0, _ => exact ⟨by kernel_rfl, by kernel_rfl⟩
    | 1, _ => exact ⟨by kernel_rfl, by kernel_rfl⟩
  · refine ⟨by kernel_rfl, fun k hk => ?_⟩
    match k, hk with
    | 0, _ => exact ⟨by kernel_rfl, by kernel_rfl⟩
    | 1, _ => exact ⟨by kernel_rfl, by kernel_rfl⟩
theorem exL_right : rightL exL = true := by kernel_rfl
theorem exB_byt : ∀ x ∈ exB, 0 ≤ x ∧ x ≤ 255 := by decide

end Go.Proofs.YtngfimjbgopgjaaDoor
