/- Contracts of items.Right. -/
import Derived.Test.YtngfimjbgopgjaaIt
import Derived.Test.YtngfimjbgopgjaaVer
namespace Go.Proofs.Ytngfimjbgopgjaa
open Go.RowKit
set_option linter.unusedVariables false

/-- May an item stand behind another one? -/
def okI (last i : It) : Bool := decide (last.1 < i.1) && decide (i.1 ≤ 200) && decide (last.2 < i.2) && rightB i.2
/-- Are the items right, behind one? -/
def rightFrom (last : It) : List It → Bool
  | [] => true
  | i :: l => okI last i && rightFrom i l
/-- Are the items right? -/
def rightL (l : List It) : Bool := rightFrom (0, 0) l

set_option maxHeartbeats 2000000 in
set_option maxRecDepth 20000 in
theorem itemsRight_any (A : Option Addr) (n c : Nat) (l : List It) (w : World) (h : RdIt w A l) (hn : l.length = n) (hn2 : n ≤ 1048576) :
    Calls Try.prog 87 #[.slice A n c] w fun e w' => e = .returned (.bool (rightL l)) ∧ Chg (fun _ => False) w w' := by
  subst hn
  have HA := Lib.hid h
  clear h
  go_enter Try.func87, Try.ntmps87
  go_wp2_with fail
  obtain ⟨g, hg⟩ : ∃ g, g = w.heap.size := ⟨_, rfl⟩
  have HG := Lib.hid hg
  rw [← hg]
  have h0 : (w.alloc (.cells #[.int .i64 0, .int .i64 0] 75)).heap[g]? = some (.cells #[.int .i64 0, .int .i64 0] 75 (0, 0)) := by rw [hg]; exact heap_alloc_new w _
  have hc0 : Chg (fun _ => False) w (w.alloc (.cells #[.int .i64 0, .int .i64 0] 75)) := (Chg.refl _ _).alloc _
  clear hg
  go_loopw [9] (fun i wr => ∃ k : Nat, k ≤ l.length ∧ i = .int .i64 k ∧ ∃ last : It, wr.heap[g]? = some (.cells #[.int .i64 last.1, .int .i64 last.2] 75 (0, 0)) ∧ rightL l = rightFrom last (l.drop k) ∧ Chg (fun _ => False) w wr) (fun i _ => l.length - (intOf i).toNat)
  case atStart => exact ⟨0, by omega, rfl, (0, 0), h0, by simp [rightL], hc0⟩
  case round =>
    clear h0 hc0
    obtain ⟨k, hk, rfl, last, hl, ht, hc⟩ := hrel
    have HT := Lib.hid ht
    clear ht
    by_cases hkn : k < l.length
    · obtain ⟨b, o, rfl, _⟩ := HA.out.at_ (k := 0) (by rw [itC_len]; omega)
      have p0 := (HA.out.keep hc (fun _ _ h => h)).cells rfl _ _ (itC_id l k hkn)
      have p1 := (HA.out.keep hc (fun _ _ h => h)).cells rfl _ _ (itC_ver l k hkn)
      rw [← Nat.add_assoc] at p1
      have hdrop : Hid (l.drop k = l[k] :: l.drop (k + 1)) := Lib.hid (List.drop_eq_getElem_cons hkn)
      obtain ⟨x, hx⟩ : ∃ x, x = l[k] := ⟨_, rfl⟩
      rw [← hx] at p0 p1 hdrop
      clear hx
      have c0 : wr.cell? ⟨g, 0, none⟩ = some (.int .i64 last.1) := cell_of_row wr g 0 #[_, _] _ (0, 0) hl
      have c1 : wr.cell? ⟨g, 1, none⟩ = some (.int .i64 last.2) := cell_of_row wr g 1 #[_, _] _ (0, 0) hl
      have hgl : g < wr.heap.size := (Array.getElem?_eq_some_iff.1 hl).1
      have hgn : wr.heap.size ≠ g := by omega
      have hfz : wr.frozen? ⟨g, 0, none⟩ = false := by simp [World.frozen?, hl]
      have hfz1 : wr.frozen? ⟨g, 1, none⟩ = false := by simp [World.frozen?, hl]
      have hbl : b ≠ wr.heap.size := by have := World.block_lt_of_cell? wr _ p0; simp at this; omega
      have hcase : (x.1 ≤ last.1 ∨ ¬ x.1 ≤ last.1 ∧ 200 < x.1 ∨ ¬ x.1 ≤ last.1 ∧ ¬ 200 < x.1 ∧ x.2 ≤ last.2) ∨ (¬ x.1 ≤ last.1 ∧ ¬ 200 < x.1 ∧ ¬ x.2 ≤ last.2) := by omega
      rcases hcase with hb | ⟨t1, t2, t3⟩
      · have hno : Hid (okI last x = false) := Lib.hid (by
          unfold okI
          rcases hb with t | ⟨_, t⟩ | ⟨_, _, t⟩
          · rw [decide_eq_false (show ¬ last.1 < x.1 by omega)]; rfl
          · rw [decide_eq_false (show ¬ x.1 ≤ 200 by omega), Bool.and_false]; rfl
          · rw [decide_eq_false (show ¬ last.2 < x.2 by omega), Bool.and_false]; rfl)
        rcases hb with t1 | ⟨t1, t2⟩ | ⟨t1, t2, t3⟩
        all_goals
          go_wp2_with fail
          go_ret
          exact ⟨by rw [HT.out, hdrop.out, rightFrom, hno.out]; rfl, hc.alloc _⟩
      · have hok : Hid (okI last x = rightB x.2) := Lib.hid (by
          unfold okI
          rw [decide_eq_true (show last.1 < x.1 by omega), decide_eq_true (show x.1 ≤ 200 by omega), decide_eq_true (show last.2 < x.2 by omega)]; rfl)
        go_wp2_with fail
        refine (right_any _ _).mono ?_
        rintro e w1 ⟨rfl, rfl⟩
        cases hr : rightB x.2
        · have hno : Hid (okI last x = false) := Lib.hid (by rw [hok.out, hr])
          go_wp2_with fail
          go_ret
          exact ⟨by rw [HT.out, hdrop.out, rightFrom, hno.out]; rfl, hc.alloc _⟩
        · have hyes : Hid (okI last x = true) := Lib.hid (by rw [hok.out, hr])
          go_wp2_with fail
          go_roundw
          case rel => exact ⟨k + 1, by omega, by go_num, x, by rw [Below.heap_alloc _ _ _ (by simpa [World.setCell] using hgl)]; simp [World.setCell, Array.getElem?_modify, hl], by rw [HT.out, hdrop.out, rightFrom, hyes.out, Bool.true_and], ((hc.setCell (p := ⟨g, 0, none⟩) (.inr (by rw [HG.out]; exact Nat.le_refl _)) _).setCell (p := ⟨g, 1, none⟩) (.inr (by rw [HG.out]; exact Nat.le_refl _)) _).alloc _⟩
          case measure => simp [intOf]; omega
    · have hkn' : k = l.length := by omega
      subst hkn'
      go_wp2_with fail
      go_ret
      exact ⟨by rw [HT.out, List.drop_length]; rfl, hc⟩
end Go.Proofs.Ytngfimjbgopgjaa
