/- What two lists of items have in common; an item in a box. -/
import Derived.Test.YtngfimjbgopgjaaIt
namespace Go.Proofs.Ytngfimjbgopgjaa
open Go.RowKit
set_option linter.unusedVariables false

/-- The last event up to which both have the same versions, behind one that they have in common. -/
def commonFrom (out : It) : List It → List It → It
  | a :: l, b :: m => if a.2 = b.2 then (if a.1 = b.1 then commonFrom (min a.1 b.1, a.2) l m else (min a.1 b.1, a.2)) else out
  | _, _ => out
def commonL (l m : List It) : It := commonFrom (0, 0) l m
theorem commonFrom_nil_left (out : It) (m : List It) : commonFrom out [] m = out := by cases m <;> rfl
theorem commonFrom_nil_right (out : It) (l : List It) : commonFrom out l [] = out := by cases l <;> rfl

/-- An item in a box. -/
def BoxIt (w : World) (g : Nat) (x : It) : Prop := w.heap[g]? = some (.cells #[.int .i64 x.1, .int .i64 x.2] 75 (0, 0))
theorem BoxIt.new (w : World) (x : It) : BoxIt (w.alloc (.cells #[.int .i64 x.1, .int .i64 x.2] 75)) w.heap.size x := heap_alloc_new w _
theorem BoxIt.c0 {w : World} {g : Nat} {x : It} (h : BoxIt w g x) : w.cell? ⟨g, 0, none⟩ = some (.int .i64 x.1) := cell_of_row w g 0 #[_, _] _ (0, 0) h
theorem BoxIt.c1 {w : World} {g : Nat} {x : It} (h : BoxIt w g x) : w.cell? ⟨g, 1, none⟩ = some (.int .i64 x.2) := cell_of_row w g 1 #[_, _] _ (0, 0) h
theorem BoxIt.fz {w : World} {g : Nat} {x : It} (h : BoxIt w g x) (k : Nat) : w.frozen? ⟨g, k, none⟩ = false := by unfold BoxIt at h; simp [World.frozen?, h]
theorem BoxIt.lt {w : World} {g : Nat} {x : It} (h : BoxIt w g x) : g < w.heap.size := (Array.getElem?_eq_some_iff.1 h).1
theorem BoxIt.set {w : World} {g : Nat} {x : It} (h : BoxIt w g x) (a b : Int) : BoxIt ((w.setCell ⟨g, 0, none⟩ (.int .i64 a)).setCell ⟨g, 1, none⟩ (.int .i64 b)) g (a, b) := by
  unfold BoxIt at *
  simp [World.setCell, Array.getElem?_modify, h]
theorem BoxIt.keep {S : Nat → Prop} {w w' : World} {g : Nat} {x : It} (h : BoxIt w g x) (hc : Chg S w w') (hg : ¬ S g) : BoxIt w' g x := hc.heap_some h hg

theorem itemSize : (Try.prog.info? 75).map (·.size) = some 2 := by kernel_rfl
end Go.Proofs.Ytngfimjbgopgjaa
