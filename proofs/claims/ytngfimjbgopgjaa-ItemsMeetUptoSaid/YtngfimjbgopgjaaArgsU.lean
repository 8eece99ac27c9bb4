/- A slice of integers that came in, small in all ('..Upto'). -/
import Derived.Test.YtngfimjbgopgjaaStepsU
import Derived.Test.YtngfimjbgopgjaaArgs
namespace Go.Proofs.Ytngfimjbgopgjaa
open Go.ChangeShapes Go.WideShapes Go.ChangeAt Go.RowKit Go.Deep
set_option linter.unusedVariables false

/-- A []int, of 1,048,576 elements at most. -/
def IntsU (w : World) (A : Option Addr) (n c : Nat) : Prop := IntsOf .i64 1048576 w A n c

section
variable {H : Type} {enc : TypeId × Value → H} {W : World} {A : Option Addr} {n c : Nat} {d : DataW H} {p : List MemPlace}
theorem open_IntsU (h : DataW.Trod enc Try.prog W 0 (fun _ => true) true 45 (.slice A n c) d p) (hsz : Rows.uptoBulk d ≤ 1048576) : IntsU W A n c := by
  obtain ⟨fuel, hf⟩ := h
  have hf' : DataW.trod enc Try.prog W 0 (fun _ => true) true fuel 45 [.slice A n c] = some (d, p) := by simpa [Value.cells] using hf
  rcases open_ints Try.underlying45 Try.underlying3 cells_int hf' with ⟨hcs, _⟩ | ⟨a, l, cp, zs, hcs, _, hl, hm, hz, hx, hcell, hwz⟩
  · simp at hcs
    obtain ⟨rfl, rfl, rfl⟩ := hcs
    exact ⟨[], rfl, Nat.le_refl _, Nat.zero_le _, Nat.zero_le _, .inl rfl, fun z hz => by cases hz⟩
  · simp at hcs
    obtain ⟨rfl, rfl, rfl⟩ := hcs
    have hzl : n ≤ zs.length := by rw [hz]; split <;> omega
    refine ⟨zs.take n, by rw [List.length_take]; omega, hl, hm, ?_, ?_, fun z hz => hwz z (List.mem_of_mem_take hz)⟩
    · have hd := congrArg Prod.fst hx
      simp only at hd
      rw [hd] at hsz
      have := Nat.le_trans (bulk_slice _ _) hsz
      simp only [lits, List.length_map, List.length_take] at this
      omega
    · refine Rd.of_add fun j u hj => ?_
      rw [List.getElem?_map, List.getElem?_take] at hj
      by_cases hjn : j < n
      · rw [if_pos hjn, List.getElem?_eq_getElem (by omega)] at hj
        rw [hcell j (by omega), List.getD_eq_getElem?_getD, List.getElem?_eq_getElem (by omega)]
        simpa using hj
      · rw [if_neg hjn] at hj; cases hj
end
end Go.Proofs.Ytngfimjbgopgjaa
