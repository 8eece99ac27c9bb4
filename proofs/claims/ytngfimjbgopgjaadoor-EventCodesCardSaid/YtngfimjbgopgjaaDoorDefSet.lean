/- One Def of a row changed: its needs, its tries, its lease. -/
import Derived.Test.YtngfimjbgopgjaaDoorDef
namespace Go.Proofs.YtngfimjbgopgjaaDoor
open Go.RowKit
set_option linter.unusedVariables false

theorem dfC_set0 (A : Option Addr) (c : Nat) (ns : List Int) : ∀ (l : List Df) (k : Nat) (h : k < l.length), (dfC l).set (k * 3) (.slice A ns.length c) = dfC (l.set k ⟨A, c, ns, l[k].tr, l[k].le⟩)
  | [], k, h => by simp at h
  | x :: l, 0, h => rfl
  | x :: l, k + 1, h => by
    have := dfC_set0 A c ns l k (by simpa using h)
    rw [show (k + 1) * 3 = k * 3 + 1 + 1 + 1 by omega]
    simpa [dfC] using this
theorem dfC_set1 (t : Int) : ∀ (l : List Df) (k : Nat) (h : k < l.length), (dfC l).set (k * 3 + 1) (.int .i64 t) = dfC (l.set k ⟨l[k].A, l[k].c, l[k].ns, t, l[k].le⟩)
  | [], k, h => by simp at h
  | x :: l, 0, h => rfl
  | x :: l, k + 1, h => by
    have := dfC_set1 t l k (by simpa using h)
    rw [show (k + 1) * 3 + 1 = k * 3 + 1 + 1 + 1 + 1 by omega]
    simpa [dfC] using this
theorem dfC_set2 (t : Int) : ∀ (l : List Df) (k : Nat) (h : k < l.length), (dfC l).set (k * 3 + 2) (.int .i64 t) = dfC (l.set k ⟨l[k].A, l[k].c, l[k].ns, l[k].tr, t⟩)
  | [], k, h => by simp at h
  | x :: l, 0, h => rfl
  | x :: l, k + 1, h => by
    have := dfC_set2 t l k (by simpa using h)
    rw [show (k + 1) * 3 + 2 = k * 3 + 2 + 1 + 1 + 1 by omega]
    simpa [dfC] using this
end Go.Proofs.YtngfimjbgopgjaaDoor
