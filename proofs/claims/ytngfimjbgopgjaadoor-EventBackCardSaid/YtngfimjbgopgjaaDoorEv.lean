/- Events that bear an ID and a version alone, in memory; contracts of items.Of and of cutoverref8.Of over them. -/
import Derived.Test.YtngfimjbgopgjaaDoorIt
namespace Go.Proofs.YtngfimjbgopgjaaDoor
open Go.RowKit
set_option linter.unusedVariables false

theorem evInfo : (Tryd.prog.info? 28).map (fun i => (i.zero, i.size, i.bytes)) = some (some (.agg #[.int .i64 0, .int .i64 0, .int .i64 0, .int .i64 0, .int .i64 0, .int .i64 0, .string ByteArray.empty, .slice none 0 0, .slice none 0 0]), 9, 112) := by kernel_rfl
/-- An event's cells: an ID, a version. -/
def evR (x : It) : List Value := [.int .i64 x.1, .int .i64 x.2, .int .i64 0, .int .i64 0, .int .i64 0, .int .i64 0, .string ByteArray.empty, .slice none 0 0, .slice none 0 0]
def evC : List It → List Value
  | [] => []
  | x :: l => evR x ++ evC l
theorem evC_len (l : List It) : (evC l).length = l.length * 9 := by
  induction l with
  | nil => rfl
  | cons x l ih => simp only [evC, List.length_cons, List.length_append, ih, evR, List.length_nil]; omega
theorem evC_app (l m : List It) : evC (l ++ m) = evC l ++ evC m := by
  induction l with
  | nil => rfl
  | cons x l ih => simp [evC, ih]
theorem evC_one (l : List It) : ∀ u ∈ evC l, u.oneCell' = true := by
  induction l with
  | nil => intro u hu; cases hu
  | cons x l ih =>
    intro u hu
    rcases List.mem_append.1 hu with hu | hu
    · simp only [evR, List.mem_cons, List.not_mem_nil, or_false] at hu
      rcases hu with rfl | rfl | rfl | rfl | rfl | rfl | rfl | rfl | rfl <;> rfl
    · exact ih u hu
theorem evC_get (l : List It) (k j : Nat) (h : k < l.length) (hj : j < 9) : (evC l)[k * 9 + j]? = (evR l[k])[j]? := by
  induction l generalizing k with
  | nil => simp at h
  | cons x l ih =>
    have e : (evR x).length = 9 := rfl
    cases k with
    | zero => rw [evC, Nat.zero_mul, Nat.zero_add, List.getElem?_append_left (by omega)]; rfl
    | succ k => rw [evC, List.getElem?_append_right (by omega), e, show (k + 1) * 9 + j - 9 = k * 9 + j by omega]; exact ih k (by simpa using h)

/-- What the reading of an event asks: its nine cells. -/
theorem ev_cells {w : World} {b o : Nat} {l : List It} (h : Rd w (some ⟨b, o, none⟩) (evC l)) (k : Nat) (hk : k < l.length) :
    w.cell? ⟨b, o + k * 9, none⟩ = some (.int .i64 l[k].1) ∧ w.cell? ⟨b, o + k * 9 + 1, none⟩ = some (.int .i64 l[k].2) ∧ w.cell? ⟨b, o + k * 9 + 2, none⟩ = some (.int .i64 0) ∧ w.cell? ⟨b, o + k * 9 + 3, none⟩ = some (.int .i64 0) ∧
    w.cell? ⟨b, o + k * 9 + 4, none⟩ = some (.int .i64 0) ∧ w.cell? ⟨b, o + k * 9 + 5, none⟩ = some (.int .i64 0) ∧ w.cell? ⟨b, o + k * 9 + 6, none⟩ = some (.string ByteArray.empty) ∧ w.cell? ⟨b, o + k * 9 + 7, none⟩ = some (.slice none 0 0) ∧ w.cell? ⟨b, o + k * 9 + 8, none⟩ = some (.slice none 0 0) := by
  have H : ∀ j, j < 9 → ∀ u, (evR l[k])[j]? = some u → w.cell? ⟨b, o + k * 9 + j, none⟩ = some u := fun j hj u hu => by
    rw [Nat.add_assoc]
    exact h.cells rfl _ _ ((evC_get l k j hk hj).trans hu)
  exact ⟨H 0 (by omega) _ rfl, H 1 (by omega) _ rfl, H 2 (by omega) _ rfl, H 3 (by omega) _ rfl, H 4 (by omega) _ rfl, H 5 (by omega) _ rfl, H 6 (by omega) _ rfl, H 7 (by omega) _ rfl, H 8 (by omega) _ rfl⟩

/-- The items of events, the first one's ID counted up. -/
def ofL (es : List It) : List It := itemsTo (es.headD (0, 0)).1 (es.map (·.2)) es.length

theorem intInfo : (Tryd.prog.info? 3).map (fun i => (i.zero, i.size, i.bytes)) = some (some (.int .i64 0), 1, 8) := by kernel_rfl
theorem ints_one (l : List Int) : ∀ u ∈ l.map (Value.int .i64), u.oneCell' = true := by
  intro u hu
  obtain ⟨x, _, rfl⟩ := List.mem_map.1 hu
  rfl
theorem take_map_snoc (es : List It) (k : Nat) (h : k < es.length) : (es.take (k + 1)).map (fun x => x.2) = (es.take k).map (fun x => x.2) ++ [es[k].2] := by
  rw [List.take_add_one, List.getElem?_eq_getElem h, List.map_append]
  rfl

end Go.Proofs.YtngfimjbgopgjaaDoor
