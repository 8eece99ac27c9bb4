/- Contract of cutoverlaw9.known. -/
import Derived.Test.YtngfimjbgopgjaaItC
import Derived.Test.YtngfimjbgopgjaaItR
namespace Go.Proofs.Ytngfimjbgopgjaa
open Go.RowKit
set_option linter.unusedVariables false

set_option maxHeartbeats 2000000 in
set_option maxRecDepth 20000 in
theorem known9_any (w : World) : Calls Try.prog 47 #[] w fun e w' => e = .returned (.bool true) ∧ Chg (fun _ => False) w w' := by
  have r1 : RdIt ((w.alloc (.cells #[.int .i64 3, .int .i64 1, .int .i64 5, .int .i64 12] 75)).alloc (.cells #[.int .i64 4, .int .i64 1] 75)) (some ⟨w.heap.size, 0, none⟩) [(3, 1), (5, 12)] :=
    (Rd.newRow w 75 #[.int .i64 3, .int .i64 1, .int .i64 5, .int .i64 12] (itC [(3, 1), (5, 12)]) rfl).alloc _
  have r2 : RdIt ((w.alloc (.cells #[.int .i64 3, .int .i64 1, .int .i64 5, .int .i64 12] 75)).alloc (.cells #[.int .i64 4, .int .i64 1] 75)) (some ⟨w.heap.size + 1, 0, none⟩) [(4, 1)] := by
    have := Rd.newRow (w.alloc (.cells #[.int .i64 3, .int .i64 1, .int .i64 5, .int .i64 12] 75)) 75 #[.int .i64 4, .int .i64 1] (itC [(4, 1)]) rfl
    simpa [RdIt] using this
  have hcm : commonL [(3, 1), (5, 12)] [(4, 1)] = (3, 1) := by decide
  have hrt : rightL [(3, 1)] = true := by decide
  have HC := Lib.hid hcm
  have HR := Lib.hid hrt
  clear hcm hrt
  go_enter Try.func47, Try.ntmps47
  go_wp2_with (first
    | (go_at_call 75; go_must (refine (common_any (some ⟨w.heap.size, 0, none⟩) (some ⟨w.heap.size + 1, 0, none⟩) 2 1 2 1 [(3, 1), (5, 12)] [(4, 1)] _ r1 r2 rfl rfl (by omega) (by omega)).mono ?_; rintro e w1 ⟨rfl, hc1⟩; rw [HC.out]))
    | (go_at_call 87; go_must (refine (itemsRight_any (some ⟨w1.heap.size, 0, none⟩) 1 1 [(3, 1)] _ (Rd.newRow w1 75 #[.int .i64 3, .int .i64 1] (itC [(3, 1)]) rfl) rfl (by omega)).mono ?_; rintro e w2 ⟨rfl, hc2⟩; rw [HR.out])))
  go_ret
  exact ⟨rfl, ((((Chg.refl _ w).alloc _).alloc _).trans hc1 (fun x hx => hx.elim)).alloc _ |>.trans hc2 (fun x hx => hx.elim)⟩
end Go.Proofs.Ytngfimjbgopgjaa
