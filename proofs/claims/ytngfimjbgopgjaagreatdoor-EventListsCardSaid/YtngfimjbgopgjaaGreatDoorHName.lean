/- Contract of cutoverhand.Name, where the six names lie in the variable's block. -/
import Derived.Test.YtngfimjbgopgjaaGreatDoorVer
import Derived.Test.YtngfimjbgopgjaaGreatDoorMemArgs
namespace Go.Proofs.YtngfimjbgopgjaaGreatDoor
open Go.RowKit
set_option linter.unusedVariables false

/-- The six names lie in block g. -/
def NamesAt (w : World) (g : Nat) : Prop := w.cell? ⟨g, 0, none⟩ = some (.string { data := #[97] }) ∧ w.cell? ⟨g, 1, none⟩ = some (.string { data := #[98] }) ∧ w.cell? ⟨g, 2, none⟩ = some (.string { data := #[106, 111, 98, 45, 49] }) ∧ w.cell? ⟨g, 3, none⟩ = some (.string { data := #[122, 57] }) ∧ w.cell? ⟨g, 4, none⟩ = some (.string { data := #[109] }) ∧ w.cell? ⟨g, 5, none⟩ = some (.string { data := #[120, 45] })
theorem NamesAt.keep {S : Nat → Prop} {w w' : World} {g : Nat} (h : NamesAt w g) (hc : Chg S w w') (hg : ¬ S g) : NamesAt w' g := by
  obtain ⟨h0, h1, h2, h3, h4, h5⟩ := h
  exact ⟨hc.cell_some h0 hg, hc.cell_some h1 hg, hc.cell_some h2 hg, hc.cell_some h3 hg, hc.cell_some h4 hg, hc.cell_some h5 hg⟩

theorem name_at (n : Int) (k : Nat) (hk : k < 6) (s : ByteArray) (w : World) (h2 : w.cell? ⟨0, k, none⟩ = some (.string s)) (hP : ∀ w', Calls Tryz.prog 5 #[.int .i64 n, .int .i64 6] w' fun e w'' => e = .returned (.int .i64 k) ∧ w' = w'') :
    Calls Tryz.prog 19 #[.int .i64 n] w fun e w' => e = .returned (.string s) ∧ w = w' := by
  have u1 := Tryz.underlying86
  have j0 : (0 : Int) ≤ (k : Int) := by omega
  have j1 : (k : Int) < 6 := by omega
  go_enter Tryz.func19, Tryz.ntmps19
  go_wp2_with (go_at_call 5; (refine (hP _).mono ?_; rintro e w' ⟨rfl, rfl⟩))
  go_ret
  exact ⟨rfl, rfl⟩
theorem hName_any (n : Int) (w : World) (h : NamesAt w 0) : Calls Tryz.prog 19 #[.int .i64 n] w fun e w' => (∃ s : ByteArray, e = .returned (.string s) ∧ s.size ≤ 5) ∧ w = w' := by
  obtain ⟨h0, h1, h2, h3, h4, h5⟩ := h
  obtain ⟨y, hy⟩ : ∃ y, y = n % 6 := ⟨_, rfl⟩
  have hP : ∀ w', Calls Tryz.prog 5 #[.int .i64 n, .int .i64 6] w' fun e w'' => e = .returned (.int .i64 y) ∧ w' = w'' := fun w' => by rw [hy]; exact pick_any _ _ w' (by omega) (by omega)
  rcases (by omega : y = 0 ∨ y = 1 ∨ y = 2 ∨ y = 3 ∨ y = 4 ∨ y = 5) with rfl | rfl | rfl | rfl | rfl | rfl
  · exact (name_at n 0 (by decide) _ w h0 hP).mono fun e w' ⟨a, b⟩ => ⟨⟨_, a, by decide⟩, b⟩
  · exact (name_at n 1 (by decide) _ w h1 hP).mono fun e w' ⟨a, b⟩ => ⟨⟨_, a, by decide⟩, b⟩
  · exact (name_at n 2 (by decide) _ w h2 hP).mono fun e w' ⟨a, b⟩ => ⟨⟨_, a, by decide⟩, b⟩
  · exact (name_at n 3 (by decide) _ w h3 hP).mono fun e w' ⟨a, b⟩ => ⟨⟨_, a, by decide⟩, b⟩
  · exact (name_at n 4 (by decide) _ w h4 hP).mono fun e w' ⟨a, b⟩ => ⟨⟨_, a, by decide⟩, b⟩
  · exact (name_at n 5 (by decide) _ w h5 hP).mono fun e w' ⟨a, b⟩ => ⟨⟨_, a, by decide⟩, b⟩
end Go.Proofs.YtngfimjbgopgjaaGreatDoor
