/- Arguments that came in, in the walk's words: a slice of integers or of bytes that reads as a list, nil let in, within the form's own reach. -/
import Derived.Test.YtngfimjbgopgjaaDoorMem
import Derived.Test.YtngfimjbgopgjaaDoorChecked
import Derived.ProofKit
import Derived.OpenShut
import Derived.Deep.Slices
namespace Go.Proofs.YtngfimjbgopgjaaDoor
open Go.ChangeShapes Go.WideShapes Go.ChangeAt Go.RowKit Go.Deep
set_option linter.unusedVariables false

/-- A slice of integers: it reads as the numbers zs, each fitting its kind. -/
def IntsOf (k : IntKind) (most : Nat) (w : World) (A : Option Addr) (n c : Nat) : Prop :=
  ∃ zs : List Int, zs.length = n ∧ n ≤ c ∧ c ≤ maxLen ∧ n ≤ most ∧ Rd w A (zs.map (Value.int k)) ∧ ∀ z ∈ zs, (Lit.int k z).wf = true

theorem IntsOf.keep {k : IntKind} {most : Nat} {w w' : World} {A : Option Addr} {n c : Nat} (h : IntsOf k most w A n c) (hc : Chg (fun _ => False) w w') : IntsOf k most w' A n c := by
  obtain ⟨zs, h1, h2, h3, h4, h5, h6⟩ := h
  exact ⟨zs, h1, h2, h3, h4, h5.keep hc (fun _ _ h => h), h6⟩

section
variable {H : Type} {enc : TypeId × Value → H} {P : Program} {w : World} {base : Nat} {spare : Nat → Bool} {held : Bool}
/-- Cells that lie one behind the other from an address on. -/
theorem Rd.of_add {a : Addr} {xs : List Value} (h : ∀ j u, xs[j]? = some u → w.cell? (a.add j) = some u) : Rd w (some a) xs := by
  rcases xs with _ | ⟨x, xs⟩
  · exact .inl rfl
  · obtain ⟨b, o, s⟩ := a
    have h1 := h 0 x rfl
    have hs : s = none := by simpa [Addr.add] using World.cell?_spot h1
    subst hs
    exact .inr ⟨b, o, rfl, fun j u hj => by have := h j u hj; rwa [Addr.add_lit] at this⟩

theorem open_IntsOf {t e : TypeId} {k : IntKind} {fuel : Nat} {A : Option Addr} {n c bytes most : Nat} {x : DataW H × List MemPlace} (ht : P.underlying t = some (.slice e)) (he : P.underlying e = some (.int k)) (hc : P.cellsOf e = 1)
    (hb : P.bytesOf e = bytes) (hbm : ∀ m, m * bytes ≤ reachBytes → m ≤ most)
    (h : DataW.trod enc P w base spare held fuel t [.slice A n c] = some x)
    (hsz : ∀ elems rest, x.1 = .slice elems rest → (elems.length + rest.length) * P.bytesOf e ≤ reachBytes) : IntsOf k most w A n c := by
  rcases open_ints ht he hc h with ⟨hcs, _⟩ | ⟨a, l, cp, zs, hcs, _, hl, hm, hz, hx, hcell, hwz⟩
  · simp at hcs
    obtain ⟨rfl, rfl, rfl⟩ := hcs
    exact ⟨[], rfl, Nat.le_refl _, Nat.zero_le _, Nat.zero_le _, .inl rfl, fun z hz => by cases hz⟩
  · simp at hcs
    obtain ⟨rfl, rfl, rfl⟩ := hcs
    have hzl : n ≤ zs.length := by rw [hz]; split <;> omega
    refine ⟨zs.take n, by rw [List.length_take]; omega, hl, hm, ?_, ?_, fun z hz => hwz z (List.mem_of_mem_take hz)⟩
    · have h1 := hsz _ _ (by rw [hx])
      rw [hb] at h1
      have h2 := hbm _ h1
      simp only [lits, List.length_map, List.length_take, List.length_drop] at h2
      omega
    · refine Rd.of_add fun j u hj => ?_
      rw [List.getElem?_map, List.getElem?_take] at hj
      by_cases hjn : j < n
      · rw [if_pos hjn, List.getElem?_eq_getElem (by omega)] at hj
        rw [hcell j (by omega), List.getD_eq_getElem?_getD, List.getElem?_eq_getElem (by omega)]
        simpa using hj
      · rw [if_neg hjn] at hj; cases hj
end

theorem str_reach {s : ByteArray} (h : s.data.toList.length ≤ reachBytes) : s.size ≤ 140737488351232 := by
  have h2 : s.size ≤ reachBytes := h
  simp only [reachBytes] at h2
  omega

/-- A []int. -/
def Ints (w : World) (A : Option Addr) (n c : Nat) : Prop := IntsOf .i64 17592186044416 w A n c
/-- A []byte. -/
def Bys (w : World) (A : Option Addr) (n c : Nat) : Prop := IntsOf .u8 140737488351232 w A n c
theorem cells_int : Tryd.prog.cellsOf 3 = 1 := by kernel_rfl
theorem cells_u8 : Tryd.prog.cellsOf 5 = 1 := by kernel_rfl
theorem bytes_int : Tryd.prog.bytesOf 3 = 8 := by kernel_rfl
theorem bytes_u8 : Tryd.prog.bytesOf 5 = 1 := by kernel_rfl

section
variable {H : Type} {enc : TypeId × Value → H} {W : World} {A : Option Addr} {n c : Nat} {d : DataW H} {p : List MemPlace}
theorem open_Ints (h : DataW.Trod enc Tryd.prog W 0 (fun _ => true) true 29 (.slice A n c) d p)
    (hsz : ∀ elems rest, d = .slice elems rest → (elems.length + rest.length) * Tryd.prog.bytesOf 3 ≤ reachBytes) : Ints W A n c := by
  obtain ⟨fuel, hf⟩ := h
  exact open_IntsOf Tryd.underlying29 Tryd.underlying3 cells_int bytes_int (fun m hm => by simp only [reachBytes] at hm; omega) (by simpa [Value.cells] using hf) hsz
theorem open_Bys (h : DataW.Trod enc Tryd.prog W 0 (fun _ => true) true 22 (.slice A n c) d p)
    (hsz : ∀ elems rest, d = .slice elems rest → (elems.length + rest.length) * Tryd.prog.bytesOf 5 ≤ reachBytes) : Bys W A n c := by
  obtain ⟨fuel, hf⟩ := h
  exact open_IntsOf Tryd.underlying22 Tryd.underlying5 cells_u8 bytes_u8 (fun m hm => by simp only [reachBytes] at hm; omega) (by simpa [Value.cells] using hf) hsz
end
end Go.Proofs.YtngfimjbgopgjaaDoor
