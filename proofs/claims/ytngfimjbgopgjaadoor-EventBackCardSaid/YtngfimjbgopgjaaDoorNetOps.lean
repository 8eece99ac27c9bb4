/- Contracts of net.Put, Peek, Take, Double, Lose. -/
import Derived.Test.YtngfimjbgopgjaaDoorNetDel
import Derived.Laws.ResultCell
namespace Go.Proofs.YtngfimjbgopgjaaDoor
open Go.RowKit
set_option linter.unusedVariables false

theorem results_cell_row_tmp {P : Program} {fn : Func} {p u : Tmp} {ty : TypeId} (h : fn.results = #[.cell p ty, .tmp u]) (tmps : Array Value) (w : World) (g : Nat) (t : TypeId) (cs : Array Value) (fr : Nat × Nat) (d : TypeDesc)
    (hp : tmps.getD p undef = .pointer (some ⟨g, 0, none⟩)) (hg : w.heap[g]? = some (.cells cs t fr))
    (hu : P.underlying ty = some d) (hd : (match d with | .struct _ | .array _ _ => true | _ => false) = true) (hi : (P.info? ty).map (·.size) = some cs.size) :
    (results fn tmps).run P w = .ok (.tuple #[.agg cs, tmps.getD u undef]) w := by
  rw [results_cell_tmp h, hp]
  simp [asAddr, run_loadVar_row w g t ty cs fr d hg hu hd hi, Result.andThen]

/-- The packets but for one. -/
def butAt (ps : List Pk) (k : Nat) : List Pk := ps.take k ++ ps.drop (k + 1)
theorem butAt_sub {ps : List Pk} {k : Nat} : ∀ p ∈ butAt ps k, p ∈ ps := fun p hp => by
  rcases List.mem_append.1 hp with h | h
  · exact List.mem_of_mem_take h
  · exact List.mem_of_mem_drop h
theorem butAt_len {ps : List Pk} {k : Nat} (hk : k < ps.length) : (butAt ps k).length = ps.length - 1 := by
  unfold butAt
  rw [List.length_append, List.length_take, List.length_drop]
  omega

end Go.Proofs.YtngfimjbgopgjaaDoor
