/- Contracts of net.Lose. -/
import Derived.Test.YtngfimjbgopgjaaNetKnown22
namespace Go.Proofs.Ytngfimjbgopgjaa
open Go.RowKit
set_option linter.unusedVariables false

set_option maxHeartbeats 1000000 in
set_option maxRecDepth 20000 in
theorem lose_no (w : World) (base g c : Nat) (A : Option Addr) (ps : List Pk) (lost : Int) (h : NetAt w base g A c ps lost) (k : Int) (hk : k < 0 ∨ ps.length ≤ k) :
    Calls Try.prog 80 #[.pointer (some ⟨g, 0, none⟩), .int .i64 k] w fun e w' => e = .returned (.bool false) ∧ Chg (fun _ => False) w w' := by
  go_enter Try.func80, Try.ntmps80
  go_wp2_with (go_at_call 71; go_must (refine (take_no _ base g c A ps lost h k hk).mono ?_; rintro e w2 ⟨rfl, hc2⟩))
  go_ret
  exact ⟨rfl, hc2.alloc _⟩

set_option maxHeartbeats 1000000 in
set_option maxRecDepth 20000 in
theorem lose_yes (w : World) (base g c : Nat) (A : Option Addr) (ps : List Pk) (lost : Int) (h : NetAt w base g A c ps lost) (k : Nat) (hk : k < ps.length) (hn : ps.length ≤ 1000) (hbs : ps[k].bs.length ≤ 140737488355328) (h0 : 0 ≤ lost) (hl : lost ≤ 1000000) :
    Calls Try.prog 80 #[.pointer (some ⟨g, 0, none⟩), .int .i64 k] w fun e w' => e = .returned (.bool true) ∧ Netted w w' base g A ps (butAt ps k) (lost + 1) := by
  have htk := take_yes w base g c A ps lost h k hk hn hbs
  have hw : IntKind.i64.wrap (lost + 1) = lost + 1 := IntWalk.i64_in _ (by omega)
  go_enter Try.func80, Try.ntmps80
  go_wp2_with (go_at_call 71; go_must (refine htk.mono ?_; rintro e w2 ⟨A2, c2, rfl, hf2, A3, c3, h3, hc3, hco3, hby3⟩; have h4 := h3.keep (S := fun _ => False) ((Chg.refl _ _).alloc (.cells #[.int .i64 ps[k].f, .int .i64 ps[k].t, .slice A2 ps[k].bs.length c2] 69)) (fun x hx => hx.elim); have q1 := h4.c1; have z1 := h4.fz 1))
  go_ret
  obtain ⟨h5, hc5⟩ := h4.lostMore (lost + 1)
  exact ⟨rfl, A3, c3, h5, (hc3.alloc _).trans hc5 (fun x hx => .inl (.inl hx)), hco3, hby3⟩
end Go.Proofs.Ytngfimjbgopgjaa
