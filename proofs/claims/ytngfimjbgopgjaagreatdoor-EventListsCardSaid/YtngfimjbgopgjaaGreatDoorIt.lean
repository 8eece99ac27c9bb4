/- Items: lists of api.Item in memory, and the contracts of items.grown, of cutoverref8.items, SameItems, Last. -/
import Derived.Test.YtngfimjbgopgjaaGreatDoorChecked
import Derived.Test.YtngfimjbgopgjaaGreatDoorMemArgs
import Derived.WalkLawsBesides
import Derived.Lib.SmallJoins
import Derived.Handy
import Derived.Outline
import Derived.Deep.RegionLaw
import Derived.Deep.DeepCutAuto
import Derived.Deep.LoopGhost
import Derived.BigQuiet
import Derived.Deep.QuietTactic
import Derived.Deep.RegionWith
import Derived.Deep.RegionHeld3
import Derived.Deep.DeepMust
namespace Go.Proofs.YtngfimjbgopgjaaGreatDoor
open Go.RowKit
set_option linter.unusedVariables false

/-- An item: its event's ID, its version. -/
abbrev It := Int × Int
/-- Items, cell by cell. -/
def itC : List It → List Value
  | [] => []
  | x :: l => .int .i64 x.1 :: .int .i64 x.2 :: itC l
theorem itC_len (l : List It) : (itC l).length = l.length * 2 := by
  induction l with
  | nil => rfl
  | cons x l ih => simp only [itC, List.length_cons, ih]; omega
theorem itC_app (l m : List It) : itC (l ++ m) = itC l ++ itC m := by
  induction l with
  | nil => rfl
  | cons x l ih => simp [itC, ih]
theorem itC_one (l : List It) : ∀ u ∈ itC l, u.oneCell' = true := by
  induction l with
  | nil => intro u hu; cases hu
  | cons x l ih =>
    intro u hu
    simp only [itC, List.mem_cons] at hu
    rcases hu with rfl | rfl | hu
    · rfl
    · rfl
    · exact ih u hu
theorem itC_id (l : List It) (k : Nat) (h : k < l.length) : (itC l)[k * 2]? = some (.int .i64 l[k].1) := by
  induction l generalizing k with
  | nil => simp at h
  | cons x l ih =>
    cases k with
    | zero => rfl
    | succ k =>
      rw [show (k + 1) * 2 = k * 2 + 1 + 1 by omega]
      simpa [itC] using ih k (by simpa using h)
theorem itC_ver (l : List It) (k : Nat) (h : k < l.length) : (itC l)[k * 2 + 1]? = some (.int .i64 l[k].2) := by
  induction l generalizing k with
  | nil => simp at h
  | cons x l ih =>
    cases k with
    | zero => rfl
    | succ k =>
      rw [show (k + 1) * 2 + 1 = k * 2 + 1 + 1 + 1 by omega]
      simpa [itC] using ih k (by simpa using h)
theorem itC_set (l : List It) (y : It) (id : Int) : (itC (l ++ [y])).set (l.length * 2) (.int .i64 id) = itC (l ++ [(id, y.2)]) := by
  rw [itC_app, itC_app, List.set_append_right _ _ (by rw [itC_len]; exact Nat.le_refl _), itC_len, Nat.sub_self]
  rfl

/-- A list of items that reads so. -/
def RdIt (w : World) (A : Option Addr) (l : List It) : Prop := Rd w A (itC l)
/-- An event more: the last item grows, or a new one comes. -/
def grownL (l : List It) (id v : Int) : List It :=
  match l.getLast? with
  | some y => if y.2 = v then l.dropLast ++ [(id, v)] else l ++ [(id, v)]
  | none => [(id, v)]
theorem grownL_nil (id v : Int) : grownL [] id v = [(id, v)] := rfl
theorem grownL_last (l : List It) (y : It) (id v : Int) : grownL (l ++ [y]) id v = if y.2 = v then l ++ [(id, v)] else l ++ [y] ++ [(id, v)] := by
  simp [grownL]
theorem grownL_len (l : List It) (id v : Int) : (grownL l id v).length ≤ l.length + 1 := by
  rcases List.eq_nil_or_concat l with rfl | ⟨l, y, rfl⟩
  · simp [grownL_nil]
  · rw [List.concat_eq_append, grownL_last]
    split <;> simp

/-- The items of the first k versions, the first event's ID told. -/
def itemsTo (first : Int) (vs : List Int) : Nat → List It
  | 0 => []
  | k + 1 => grownL (itemsTo first vs k) (first + k) (vs.getD k 0)
theorem itemsTo_len (first : Int) (vs : List Int) (k : Nat) : (itemsTo first vs k).length ≤ k := by
  induction k with
  | zero => simp [itemsTo]
  | succ k ih => have := grownL_len (itemsTo first vs k) (first + k) (vs.getD k 0); simp only [itemsTo]; omega

end Go.Proofs.YtngfimjbgopgjaaGreatDoor
