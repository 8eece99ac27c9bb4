/- Contracts of slices.Equal over numbers, event.sameDef, slices.EqualFunc over Defs, event.Same at any two events. -/
import Derived.Test.YtngfimjbgopgjaaDoorEvReadG
import Derived.Test.YtngfimjbgopgjaaDoorEvSame
namespace Go.Proofs.YtngfimjbgopgjaaDoor
open Go.RowKit
set_option linter.unusedVariables false

set_option maxHeartbeats 1000000 in
theorem equalI_any (A B : Option Addr) (n m c d : Nat) (l l' : List Int) (w : World) (ha : Rd w A (l.map (Value.int .i64))) (hb : Rd w B (l'.map (Value.int .i64))) (hn : l.length = n) (hm : l'.length = m) (hn2 : n ≤ 1048576) (hm2 : m ≤ 1048576) :
    Calls Tryd.prog 87 #[.slice A n c, .slice B m d] w fun e w' => e = .returned (.bool (decide (l = l'))) ∧ Chg (fun _ => False) w w' := by
  subst hn hm
  have HA := Lib.hid ha
  have HB := Lib.hid hb
  clear ha hb
  by_cases hlen : l.length = l'.length
  · have hd : decide (l.length = l'.length) = true := by simpa using hlen
    go_enter Tryd.func87, Tryd.ntmps87
    go_wp2_with fail
    go_loopw [13] (fun i wr => ∃ k : Nat, k ≤ l.length ∧ i = .int .i64 k ∧ l.take k = l'.take k ∧ Chg (fun _ => False) w wr) (fun i _ => l.length - (intOf i).toNat)
    case atStart => exact ⟨0, by omega, rfl, by simp, Chg.refl _ _⟩
    case round =>
      obtain ⟨k, hk, rfl, ht, hc⟩ := hrel
      by_cases hkn : k < l.length
      · have hkm : k < l'.length := by omega
        obtain ⟨b, o, rfl, hq⟩ := (HA.out.keep hc (fun _ _ h => h)).at_ (k := k) (by simpa using hkn)
        obtain ⟨b', o', rfl, hq'⟩ := (HB.out.keep hc (fun _ _ h => h)).at_ (k := k) (by simpa using hkm)
        rw [List.getElem_map] at hq hq'
        obtain ⟨x, hx⟩ : ∃ x, x = l[k] := ⟨_, rfl⟩
        obtain ⟨y, hy⟩ : ∃ y, y = l'[k] := ⟨_, rfl⟩
        rw [← hx] at hq
        rw [← hy] at hq'
        have HX := Lib.hid hx
        have HY := Lib.hid hy
        have HT := Lib.hid ht
        clear hx hy ht
        by_cases hxy : x = y
        · subst hxy
          have hb : (x != x) = false := by simp
          go_wp2_with fail
          go_quiet (fail)
          go_wp2_with fail
          go_roundw
          case rel => exact ⟨k + 1, by omega, by go_num, by rw [List.take_add_one, List.take_add_one, HT.out, List.getElem?_eq_getElem hkn, List.getElem?_eq_getElem hkm, ← HX.out, ← HY.out], hc.drewN _⟩
          case measure => simp [intOf]; omega
        · have hne : l ≠ l' := by
            intro e
            subst e
            exact hxy (HX.out.trans HY.out.symm)
          have HE := Lib.hid hne
          have hb : (x != y) = true := by simpa using hxy
          have hb2 : decide (x = y) = false := by simpa using hxy
          clear hne
          go_wp2_with fail
          go_quiet (fail)
          go_wp2_with fail
          go_ret
          exact ⟨by rw [decide_eq_false HE.out]; rfl, hc.drewN _⟩
      · have hkn' : k = l.length := by omega
        subst hkn'
        have hll : l = l' := by
          rw [List.take_of_length_le (Nat.le_refl _), List.take_of_length_le (by omega)] at ht
          exact ht
        have HE := Lib.hid hll
        clear hll ht
        go_wp2_with fail
        go_ret
        exact ⟨by rw [decide_eq_true HE.out]; rfl, hc⟩
  · have hd : decide (l.length = l'.length) = false := by simpa using hlen
    go_enter Tryd.func87, Tryd.ntmps87
    go_wp2_with fail
    go_ret
    exact ⟨by rw [decide_eq_false (fun e => hlen (by rw [e]))]; rfl, Chg.refl _ _⟩

set_option maxHeartbeats 1000000 in
set_option maxRecDepth 20000 in
theorem sameDef_any (A B : Option Addr) (n c m d : Nat) (ns ms : List Int) (tr le tr' le' : Int) (w : World) (hA : Rd w A (ns.map (Value.int .i64))) (hB : Rd w B (ms.map (Value.int .i64))) (hn : ns.length = n) (hm : ms.length = m) (hn2 : n ≤ 1048576) (hm2 : m ≤ 1048576) :
    Calls Tryd.prog 68 #[.agg #[.slice A n c, .int .i64 tr, .int .i64 le], .agg #[.slice B m d, .int .i64 tr', .int .i64 le']] w fun e w' => e = .returned (.bool (decide (ns = ms) && (decide (tr = tr') && decide (le = le')))) ∧ Chg (fun _ => False) w w' := by
  have HA := Lib.hid hA
  have HB := Lib.hid hB
  have HN := Lib.hid hn
  have HM := Lib.hid hm
  obtain ⟨t, ht⟩ : ∃ t, decide (ns = ms) = t := ⟨_, rfl⟩
  rw [ht]
  have HT := Lib.hid ht
  clear hA hB hn hm ht
  have bP := two_P w 49 49 #[.slice A n c, .int .i64 tr, .int .i64 le] #[.slice B m d, .int .i64 tr', .int .i64 le']
  have bE := two_E w 49 49 #[.slice A n c, .int .i64 tr, .int .i64 le] #[.slice B m d, .int .i64 tr', .int .i64 le']
  cases t <;> rcases Classical.em (tr = tr') with rfl | h1 <;> rcases Classical.em (le = le') with rfl | h2
  all_goals
    (try have u1 : (tr == tr') = false := by simpa using h1)
    (try have u2 : decide (tr = tr') = false := by simpa using h1)
    (try have u3 : (le == le') = false := by simpa using h2)
    (try have u4 : decide (le = le') = false := by simpa using h2)
    go_enter Tryd.func68, Tryd.ntmps68
    go_wp2_with (go_at_call 87; go_must (refine (equalI_any A B n m c d ns ms _ ((HA.out.alloc _).alloc _) ((HB.out.alloc _).alloc _) HN.out HM.out hn2 hm2).mono ?_; rintro e w2 ⟨rfl, hc2⟩; rw [HT.out]; have q1 := (bP.keep hc2 (fun h => h)).cell 1 rfl; have q2 := (bP.keep hc2 (fun h => h)).cell 2 rfl; have r1 := (bE.keep hc2 (fun h => h)).cell 1 rfl; have r2 := (bE.keep hc2 (fun h => h)).cell 2 rfl))
    go_ret
    exact ⟨by simp_all, (((Chg.refl _ _).alloc _).alloc _).trans hc2 (fun x hx => hx.elim)⟩
end Go.Proofs.YtngfimjbgopgjaaDoor
