/- Contract of cutoverlaw22.same, at two packets that tell the same. -/
import Derived.Test.YtngfimjbgopgjaaNetTake2
namespace Go.Proofs.Ytngfimjbgopgjaa
open Go.RowKit
set_option linter.unusedVariables false

set_option maxHeartbeats 1000000 in
set_option maxRecDepth 20000 in
theorem samePk_yes (f t : Int) (A B : Option Addr) (n c m d : Nat) (bs : List Int) (w : World) (hA : Rd w A (bs.map (Value.int .u8))) (hB : Rd w B (bs.map (Value.int .u8))) (hn : bs.length = n) (hm : bs.length = m) :
    Calls Try.prog 81 #[.agg #[.int .i64 f, .int .i64 t, .slice A n c], .agg #[.int .i64 f, .int .i64 t, .slice B m d]] w fun e w' => e = .returned (.bool true) ∧ Chg (fun _ => False) w w' := by
  subst hn
  subst hm
  have b1 : BoxPk ((w.alloc (.cells #[.int .i64 f, .int .i64 t, .slice A bs.length c] 69)).alloc (.cells #[.int .i64 f, .int .i64 t, .slice B bs.length d] 69)) w.heap.size f t (.slice A bs.length c) := (BoxPk.new w f t _).keep (S := fun _ => False) ((Chg.refl _ _).alloc _) (fun h => h)
  have b2 : BoxPk ((w.alloc (.cells #[.int .i64 f, .int .i64 t, .slice A bs.length c] 69)).alloc (.cells #[.int .i64 f, .int .i64 t, .slice B bs.length d] 69)) (w.heap.size + 1) f t (.slice B bs.length d) := by
    have := BoxPk.new (w.alloc (.cells #[.int .i64 f, .int .i64 t, .slice A bs.length c] 69)) f t (.slice B bs.length d)
    simpa using this
  have k1 := run_convert_rd (P := Try.prog) ((w.alloc (.cells #[.int .i64 f, .int .i64 t, .slice A bs.length c] 69)).alloc (.cells #[.int .i64 f, .int .i64 t, .slice B bs.length d] 69)) 34 9 5 Try.underlying34 Try.underlying5 Try.underlying9 A bs.length c bs rfl ((hA.alloc _).alloc _)
  have k2 := run_convert_rd (P := Try.prog) ((w.alloc (.cells #[.int .i64 f, .int .i64 t, .slice A bs.length c] 69)).alloc (.cells #[.int .i64 f, .int .i64 t, .slice B bs.length d] 69)) 34 9 5 Try.underlying34 Try.underlying5 Try.underlying9 B bs.length d bs rfl ((hB.alloc _).alloc _)
  have p0 := b1.c0
  have p1 := b1.c1
  have p2 := b1.c2
  have q0 := b2.c0
  have q1 := b2.c1
  have q2 := b2.c2
  go_enter Try.func81, Try.ntmps81
  go_wp2_with fail
  go_ret
  exact ⟨by simp, ((Chg.refl _ _).alloc _).alloc _⟩
end Go.Proofs.Ytngfimjbgopgjaa
