/- Contracts of net.Lose, and of cutoverlaw22.known. -/
import Derived.Test.YtngfimjbgopgjaaNetOps
import Derived.Lib.SlBytesConst
namespace Go.Proofs.Ytngfimjbgopgjaa
open Go.RowKit
set_option linter.unusedVariables false

/-- Own: the net's blocks are all new since w0. -/
theorem Netted.own {w0 w w' : World} {base g : Nat} {A : Option Addr} {ps ps' : List Pk} {lost lost' : Int} {c : Nat} (h : Netted w w' base g A ps ps' lost') (h0 : NetAt w base g A c ps lost) (hc : Chg (fun _ => False) w0 w) (hb : w0.heap.size ≤ base) :
    ∃ A' c', NetAt w' base g A' c' ps' lost' ∧ Chg (fun _ => False) w0 w' := by
  obtain ⟨A', c', h1, h2, _, _⟩ := h
  exact ⟨A', c', h1, hc.trans h2 (fun x hx => .inr (Nat.le_trans hb (h0.core_lt x hx).1))⟩

set_option maxHeartbeats 1000000 in
set_option maxRecDepth 20000 in
theorem known22_any (w : World) : Calls Try.prog 68 #[] w fun e w' => e = .returned (.bool true) ∧ Chg (fun _ => False) w w' := by
  have kc := fun (w : World) (C : Array Value) (n c : Nat) => Lib.run_convert_bytes_const (P := Try.prog) w 34 5 C n c Try.underlying34 Try.underlying5
  go_enter Try.func68, Try.ntmps68
  go_wp2_with (first
    | (go_at_call 67; go_must (refine (newNet_any w).mono ?_; rintro e w1 ⟨rfl, h1, hc1⟩; have h2 := h1.keep (S := fun _ => False) ((Chg.refl _ _).alloc (.cells #[.int .u8 120] 5 (1, 2))) (fun x hx => hx.elim); have hr1 : Rd (w1.alloc (.cells #[.int .u8 120] 5 (1, 2))) (some ⟨w1.heap.size, 0, none⟩) ([120].map (Value.int .u8)) := (.inr ⟨w1.heap.size, 0, rfl, fun j u hj => by rw [cell_of_row _ _ _ #[.int .u8 120] _ (1, 2) (heap_alloc_new w1 _)]; simpa using hj⟩)))
    | (go_at_call 69; go_must (refine (put_yes _ w.heap.size w.heap.size 0 none [] 0 h2 1 2 (some ⟨w1.heap.size, 0, none⟩) 1 1 [120] hr1 rfl (by omega) (by simp) (by have := hc1.size; simp; omega)).mono ?_; rintro e w2 ⟨rfl, p, hp, hnt⟩; obtain ⟨A3, c3, h3, hc3⟩ := hnt.own h2 (hc1.alloc _) (Nat.le_refl _); have hbs : p.bs = [120] := congrArg (fun x => x.2.2) hp))
    | (go_at_call 79; go_must (refine (double_yes _ w.heap.size w.heap.size c3 A3 [p] 0 h3 0 (by simp) (by simp) (by show p.bs.length ≤ _; rw [hbs]; simp) hc3.size).mono ?_; rintro e w4 ⟨rfl, p2, hp2, hnt2⟩; obtain ⟨A5, c5, h5, hc5⟩ := hnt2.own h3 hc3 (Nat.le_refl _)))
    | (go_at_call 70; go_must (refine (netLen_any _ w.heap.size w.heap.size c5 A5 _ 0 h5).mono ?_; rintro e w' ⟨rfl, rfl⟩)))
  go_ret
  exact ⟨rfl, hc5⟩
end Go.Proofs.Ytngfimjbgopgjaa
