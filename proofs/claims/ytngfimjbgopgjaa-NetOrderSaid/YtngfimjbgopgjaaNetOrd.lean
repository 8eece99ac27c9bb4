/- NetOrder: packets of rising places. -/
import Derived.Test.YtngfimjbgopgjaaOctKnown
import Derived.Test.YtngfimjbgopgjaaArgs
import Derived.Test.YtngfimjbgopgjaaVer
import Derived.Test.YtngfimjbgopgjaaNetKnown22
namespace Go.Proofs.Ytngfimjbgopgjaa.netOrder
open Go.RowKit
set_option linter.unusedVariables false

/-- The packets are those of some rising places below k. -/
def Ord (zs : List Int) (k : Nat) (ps : List Pk) : Prop :=
  ∃ is : List Nat, ps.map Pk.v = is.map (fun i : Nat => ((1 : Int), (2 : Int), [(i : Int), zs.getD i 0])) ∧ is.Pairwise (· < ·) ∧ ∀ i ∈ is, i < k
theorem Ord.step {zs : List Int} {k : Nat} {ps : List Pk} (h : Ord zs k ps) {p : Pk} (hp : p.v = (1, 2, [(k : Int), zs.getD k 0])) : Ord zs (k + 1) (ps ++ [p]) := by
  obtain ⟨is, h1, h2, h3⟩ := h
  refine ⟨is ++ [k], by rw [List.map_append, List.map_append, h1]; simp [hp], ?_, fun i hi => ?_⟩
  · rw [List.pairwise_append]
    exact ⟨h2, by simp, fun a ha b hb => by simp only [List.mem_singleton] at hb; subst hb; exact h3 a ha⟩
  · rcases List.mem_append.1 hi with hi | hi
    · have := h3 i hi; omega
    · simp only [List.mem_singleton] at hi; omega
theorem Ord.but {zs : List Int} {k : Nat} {ps : List Pk} (h : Ord zs k ps) (j : Nat) : Ord zs k (butAt ps j) := by
  obtain ⟨is, h1, h2, h3⟩ := h
  refine ⟨is.take j ++ is.drop (j + 1), ?_, ?_, fun i hi => ?_⟩
  · unfold butAt
    rw [List.map_append, List.map_append, List.map_take, List.map_drop, List.map_take, List.map_drop, h1]
  · rw [← List.eraseIdx_eq_take_drop_succ]
    exact h2.sublist (List.eraseIdx_sublist is j)
  · rcases List.mem_append.1 hi with hi | hi
    · exact h3 i (List.mem_of_mem_take hi)
    · exact h3 i (List.mem_of_mem_drop hi)
theorem Ord.two {zs : List Int} {k : Nat} {ps : List Pk} (h : Ord zs k ps) : ∀ p ∈ ps, p.bs.length = 2 := by
  obtain ⟨is, h1, _, _⟩ := h
  intro p hp
  have : p.v ∈ ps.map Pk.v := List.mem_map_of_mem hp
  rw [h1] at this
  obtain ⟨i, _, e⟩ := List.mem_map.1 this
  have e2 : p.bs = [(i : Int), zs.getD i 0] := by have := congrArg (fun x => x.2.2) e; exact this.symm
  rw [e2]
  rfl
/-- The place of the packet at j. -/
theorem Ord.at_ {zs : List Int} {k : Nat} {ps : List Pk} (h : Ord zs k ps) : ∃ f : Nat → Nat, (∀ j (hj : j < ps.length), ps[j].bs = [(f j : Int), zs.getD (f j) 0] ∧ f j < k) ∧ ∀ i j, i < j → j < ps.length → f i < f j := by
  obtain ⟨is, h1, h2, h3⟩ := h
  have hl : ps.length = is.length := by have := congrArg List.length h1; simpa using this
  refine ⟨fun j => is.getD j 0, fun j hj => ?_, fun i j hij hj => ?_⟩
  · have hj2 : j < is.length := by omega
    have e : (ps.map Pk.v)[j]'(by simpa using hj) = (is.map (fun i : Nat => ((1 : Int), (2 : Int), [(i : Int), zs.getD i 0])))[j]'(by simpa using hj2) := by simp only [h1]
    rw [List.getElem_map, List.getElem_map] at e
    have e2 : ps[j].bs = [((is[j] : Nat) : Int), zs.getD is[j] 0] := congrArg (fun x => x.2.2) e
    have e3 : is.getD j 0 = is[j] := by rw [List.getD_eq_getElem?_getD, List.getElem?_eq_getElem hj2]; rfl
    simp only [e3]
    exact ⟨e2, h3 _ (List.getElem_mem _)⟩
  · have hj2 : j < is.length := by omega
    have e3 : is.getD j 0 = is[j] := by rw [List.getD_eq_getElem?_getD, List.getElem?_eq_getElem hj2]; rfl
    have e4 : is.getD i 0 = is[i]'(by omega) := by rw [List.getD_eq_getElem?_getD, List.getElem?_eq_getElem (by omega)]; rfl
    show is.getD i 0 < is.getD j 0
    rw [e3, e4]
    exact List.pairwise_iff_getElem.1 h2 i j _ _ hij

end Go.Proofs.Ytngfimjbgopgjaa.netOrder
