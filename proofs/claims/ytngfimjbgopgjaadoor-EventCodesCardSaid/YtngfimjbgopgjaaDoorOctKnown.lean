/- The contract of cutoverlaw1.known: chapter 1's example; and of the closed statement OctetKnown. -/
import Derived.Test.YtngfimjbgopgjaaDoorRd
import Derived.Deep.OwnRows
namespace Go.Proofs.YtngfimjbgopgjaaDoor
open Go.RowKit
set_option linter.unusedVariables false

/-- A call that answers true, and turns nothing that was there. -/
def SaysTrue (w : World) (e : Ending) (w' : World) : Prop := e = .returned (.bool true) ∧ Chg (fun _ => False) w w'

/-- A writer of the call's own. -/
theorem Wrote.own {T : TypeId} {w0 w w' : World} {p : Nat} {A : Option Addr} {bs : List Int} (hw : Wrote T w w' p A bs) (hc : Chg (fun _ => False) w0 w) (hp : w0.heap.size ≤ p) (hA : ∀ x, blk A = some x → w0.heap.size ≤ x) :
    ∃ A' c', WAt T w' p A' c' bs ∧ Chg (fun _ => False) w0 w' ∧ ∀ x, blk A' = some x → w0.heap.size ≤ x := by
  obtain ⟨A', c', h, hc2, hb⟩ := hw
  refine ⟨A', c', h, hc.trans hc2 ?_, ?_⟩
  · rintro x (rfl | hx)
    · exact .inr hp
    · exact .inr (hA x hx)
  · intro x hx
    rcases hb with e | ⟨g, e, hg⟩
    · exact hA x (by rw [← e]; exact hx)
    · rw [e] at hx; cases hx; exact Nat.le_trans hc.size hg

theorem kb : be (IntKind.u64.wrap 258) 2 = [1, 2] := by simp [be, IntKind.wrap_u64]
theorem ks : shortB (strB { data := #[97, 98] }) = [0, 2, 97, 98] := by decide
theorem kn : strOfNums [1, 2, 0, 2, 97, 98] = { data := #[1, 2, 0, 2, 97, 98] } := by decide

/-- The world behind 'make([]byte, n)'. -/
def madeW (w : World) (n : Nat) : World := w.alloc (.cells (madeCells #[.int .u8 0] n) 5)
theorem run_madeW (w : World) (n : Nat) (hn : n ≤ 65536) : (Instr.makeSlice 22 (.int .i64 (n : Int)) (.int .i64 (n : Int))).run Tryd.prog w = .ok (.slice (some ⟨w.heap.size, 0, none⟩) n n) (madeW w n) :=
  run_make_row' 22 5 (.int .u8 0) 1 Tryd.underlying22 byteInfo rfl .i64 .i64 n (by omega) (by omega) w
theorem Chg.ofMade (w : World) (n : Nat) (S : Nat → Prop) : Chg S w (madeW w n) := (Chg.refl _ w).alloc _
theorem Rd.ofMade (w : World) (n : Nat) : Rd (madeW w n) (some ⟨w.heap.size, 0, none⟩) ((List.replicate n (0 : Int)).map (Value.int .u8)) := by
  refine .inr ⟨w.heap.size, 0, rfl, fun j u hj => ?_⟩
  have h1 : (madeW w n).heap[w.heap.size]? = some (.cells (madeCells #[.int .u8 0] n) 5) := heap_alloc_new w _
  rw [cell_of_row _ _ _ _ _ _ h1]
  have hlt : j < n := by
    have := (List.getElem?_eq_some_iff.1 hj).1
    simpa using this
  rw [List.getElem?_map, List.getElem?_replicate, if_pos hlt] at hj
  rw [← hj]
  simp [madeCells, hlt, Nat.mod_one]

def knownR : List Int := [255, 255, 255, 255, 255, 255, 255, 254, 0, 1, 97, 9]
theorem kr1 : numR false knownR 8 = (-2, false, [0, 1, 97, 9]) := by decide +kernel
theorem kr2 : shortR false [0, 1, 97, 9] = ([97], false, [9]) := by decide +kernel
theorem kr3 : numR false [9] 2 = (0, true, []) := by decide +kernel
theorem kr4 : strOfNums [97] = { data := #[97] } := by decide
theorem knownR_byt : ∀ x ∈ knownR, 0 ≤ x ∧ x ≤ 255 := by decide

end Go.Proofs.YtngfimjbgopgjaaDoor
