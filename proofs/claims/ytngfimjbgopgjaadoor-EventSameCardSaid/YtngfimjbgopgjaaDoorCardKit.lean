/- What the rows' listed variable says: the six names lie in block 0. -/
import Derived.Test.YtngfimjbgopgjaaDoorRows
import Derived.Test.YtngfimjbgopgjaaDoorHName
import Derived.ProofKit
import Derived.LaidMore
import Derived.OpenShut
import Derived.Stop.Joined
namespace Go.Proofs.YtngfimjbgopgjaaDoor
open Go.ChangeShapes Go.WideShapes Go.ChangeAt Go.RowKit
set_option linter.unusedVariables false

abbrev laidNames : List (String × DataW Unit) := [("cutover/cutoverhand.names", Rows.laid_cutover_cutoverhand_names)]
theorem len6 {α : Type} {l : List α} (h : l.length = 6) : ∃ a0 a1 a2 a3 a4 a5, l = [a0, a1, a2, a3, a4, a5] := by
  match l, h with
  | [a0, a1, a2, a3, a4, a5], _ => exact ⟨a0, a1, a2, a3, a4, a5, rfl⟩
theorem gNames : Tryd.prog.globalNamed "cutover/cutoverhand.names" = some 0 := by kernel_rfl
theorem tNames : (Tryd.prog.globals[0]?).map (·.type) = some 94 := by kernel_rfl
/-- The door's own heap meets the condition. -/
theorem door_met (os : Os) (args : Array Value) : laidMetH Tryd.prog laidNames ((World.doorLaid Tryd.prog 14 os).forCall (fun _ _ => 0) ⟨#[], args, []⟩).memory :=
  laidMetH_of_parts3 (fuel := 8) (laidMet_of_run' 8 (by kernel_rfl) (by kernel_rfl)) (by kernel_rfl) (by kernel_rfl)
set_option maxRecDepth 20000 in
theorem names_of_laid {W : World} (h : laidMetH Tryd.prog laidNames W) : NamesAt W 0 := by
  rw [MakeChecks.laidMetH_plain _ _ _ (by kernel_rfl)] at h
  obtain ⟨ps, ⟨g0, t0, cs0, f0, p0, q0, hg0, ht0, hv0, hd0, _, _⟩, _⟩ := h
  obtain rfl := Option.some.inj (gNames.symm.trans hg0)
  obtain rfl := Option.some.inj (tNames.symm.trans ht0)
  have hc := World.var?_cell hg0 hv0
  obtain ⟨l⟩ := cs0
  obtain ⟨xs, m1, rfl, hx1, hlen, hn, hel⟩ := DataW.trod_array Tryd.underlying94 hd0
  have c9 : Tryd.prog.cellsOf 9 = 1 := by kernel_rfl
  have c94 : Tryd.prog.cellsOf 94 = 6 := by kernel_rfl
  rw [c94] at hlen
  rw [c9] at hel
  obtain ⟨a0, a1, a2, a3, a4, a5, rfl⟩ := len6 (l := l) hlen
  obtain ⟨x0, x1, x2, x3, x4, x5, rfl⟩ := len6 hn
  simp only [Rows.laid_cutover_cutoverhand_names, Prod.mk.injEq, DataW.agg.injEq, List.map_cons, List.map_nil, List.cons.injEq, and_true] at hx1
  obtain ⟨⟨e0, e1, e2, e3, e4, e5⟩, _⟩ := hx1
  have one : ∀ (i : Nat) (a : Value) (x : DataW Unit × List MemPlace) (bs : List UInt8), i < 6 → ([a0, a1, a2, a3, a4, a5] : List Value)[i]? = some a → ([x0, x1, x2, x3, x4, x5] : List (DataW Unit × List MemPlace))[i]? = some x → DataW.lit (.string bs) = x.1 → a = .string { data := ⟨bs⟩ } := by
    intro i a x bs hi ha hx he
    have h := hel i hi
    rw [hx] at h
    have hcs : ((([a0, a1, a2, a3, a4, a5] : List Value).drop (i * 1)).take 1) = [a] := by
      rw [Nat.mul_one]
      have hl : i < ([a0, a1, a2, a3, a4, a5] : List Value).length := hi
      rw [List.getElem?_eq_getElem hl] at ha
      rw [List.drop_eq_getElem_cons hl, Option.some.inj ha]
      rfl
    have h2 : DataW.trod (fun _ => ()) Tryd.prog W 0 (fun _ => true) false m1 9 [a] = some x := by rw [← hcs]; exact h
    obtain ⟨s, e1, e2, _⟩ := DataW.trod_string Tryd.underlying9 h2
    injection e1 with e1
    subst e1
    rw [e2] at he
    have hs : s.data.toList = bs := by simpa using he.symm
    congr 1
    exact bytes_inj (by rw [hs])
  have r0 := one 0 a0 x0 _ (by decide) rfl rfl e0
  have r1 := one 1 a1 x1 _ (by decide) rfl rfl e1
  have r2 := one 2 a2 x2 _ (by decide) rfl rfl e2
  have r3 := one 3 a3 x3 _ (by decide) rfl rfl e3
  have r4 := one 4 a4 x4 _ (by decide) rfl rfl e4
  have r5 := one 5 a5 x5 _ (by decide) rfl rfl e5
  subst r0 r1 r2 r3 r4 r5
  exact ⟨by simpa using hc 0, by simpa using hc 1, by simpa using hc 2, by simpa using hc 3, by simpa using hc 4, by simpa using hc 5⟩
end Go.Proofs.YtngfimjbgopgjaaDoor
