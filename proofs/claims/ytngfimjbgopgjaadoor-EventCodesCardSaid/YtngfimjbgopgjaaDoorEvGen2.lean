/- Contracts of event.texts and Right at any event. -/
import Derived.Test.YtngfimjbgopgjaaDoorEvGen
namespace Go.Proofs.YtngfimjbgopgjaaDoor
open Go.RowKit
set_option linter.unusedVariables false

/-- Name and data as a type names them. -/
def txtB (b1 : Bool) (nm : ByteArray) (b2 : Bool) (n : Nat) : Bool := (b1 == !decide (nm.size = 0)) && (!b1 || isNameB nm) && (decide (n = 0) || (b2 && decide (n ≤ 40)))
theorem str_nil {s : ByteArray} (h : s.size = 0) : s = { data := #[] } := by
  have h1 : s.data.size = 0 := h
  have h2 := Array.eq_empty_of_size_eq_zero h1
  cases s
  simp_all

set_option maxHeartbeats 2000000 in
set_option maxRecDepth 20000 in
theorem texts_any (b0 b1 b2 b3 : Bool) (p id ver tm ty node m : Int) (nm : ByteArray) (A : Option Addr) (n c : Nat) (D : Option Addr) (dn dc : Nat) (w : World) (hs : nm.size ≤ 140737488355328) : Calls Tryd.prog 46 #[.agg #[.bool b0, .bool b1, .bool b2, .bool b3, .int .i64 p], .agg #[.int .i64 id, .int .i64 ver, .int .i64 tm, .int .i64 ty, .int .i64 node, .int .i64 m, .string nm, .slice A n c, .slice D dn dc]] w fun e w' => e = .returned (.bool (txtB b1 nm b2 n)) ∧ Chg (fun _ => False) w w' := by
  have hb : txtB b1 nm b2 n = ((b1 == !decide (nm.size = 0)) && (!b1 || isNameB nm) && (decide (n = 0) || (b2 && decide (n ≤ 40)))) := rfl
  rw [hb]
  clear hb
  obtain ⟨t1, ht1⟩ : ∃ t1, isNameB nm = t1 := ⟨_, rfl⟩
  rw [ht1]
  have H1 := Lib.hid ht1
  clear ht1
  have bP := two_P w 69 28 #[.bool b0, .bool b1, .bool b2, .bool b3, .int .i64 p] #[.int .i64 id, .int .i64 ver, .int .i64 tm, .int .i64 ty, .int .i64 node, .int .i64 m, .string nm, .slice A n c, .slice D dn dc]
  have bE := two_E w 69 28 #[.bool b0, .bool b1, .bool b2, .bool b3, .int .i64 p] #[.int .i64 id, .int .i64 ver, .int .i64 tm, .int .i64 ty, .int .i64 node, .int .i64 m, .string nm, .slice A n c, .slice D dn dc]
  have hc0 : Chg (fun _ => False) w ((w.alloc (.cells #[.bool b0, .bool b1, .bool b2, .bool b3, .int .i64 p] 69)).alloc (.cells #[.int .i64 id, .int .i64 ver, .int .i64 tm, .int .i64 ty, .int .i64 node, .int .i64 m, .string nm, .slice A n c, .slice D dn dc] 28)) := ((Chg.refl _ _).alloc _).alloc _
  rcases Classical.em (nm.size = 0) with h0 | h0
  · obtain rfl := str_nil h0
    have hd0 : decide (ByteArray.size { data := #[] } = 0) = true := by decide
    rw [hd0]
    cases b1
    · rcases n with _ | n
      · go_enter Tryd.func46, Tryd.ntmps46
        go_wp2_with fail
        go_ret
        exact ⟨rfl, hc0⟩
      · have hnz : ((n : Int) + 1 == 0) = false := by simp; omega
        have hnz2 : ((n : Int) + 1 = 0) = False := by simp; omega
        rcases Classical.em (n + 1 ≤ 40) with h4 | h4 <;> cases b2
        all_goals
          (try have h5 : (n : Int) + 1 ≤ 40 := by omega)
          (try have h5 : (40 : Int) < (n : Int) + 1 := by omega)
          go_enter Tryd.func46, Tryd.ntmps46
          go_wp2_with fail
          go_ret
          exact ⟨by simp <;> omega, hc0⟩
    · go_enter Tryd.func46, Tryd.ntmps46
      go_wp2_with fail
      go_ret
      exact ⟨rfl, hc0⟩
  · have hd0 : decide (nm.size = 0) = false := by simpa using h0
    rw [hd0]
    have m0 := str_ne h0
    cases b1
    · go_enter Tryd.func46, Tryd.ntmps46
      go_wp2_with fail
      go_ret
      exact ⟨rfl, hc0⟩
    · cases t1
      · go_enter Tryd.func46, Tryd.ntmps46
        go_wp2_with (go_at_call 65; go_must (refine (isName_any nm _ hs).mono ?_; rintro e w2 ⟨rfl, hc⟩; rw [H1.out]))
        go_ret
        exact ⟨rfl, hc0.trans hc (fun x hx => hx.elim)⟩
      · rcases n with _ | n
        · go_enter Tryd.func46, Tryd.ntmps46
          go_wp2_with (go_at_call 65; go_must (refine (isName_any nm _ hs).mono ?_; rintro e w2 ⟨rfl, hc⟩; rw [H1.out]; have q7 := (bE.keep hc (fun h => h)).cell 7 rfl))
          go_ret
          exact ⟨rfl, hc0.trans hc (fun x hx => hx.elim)⟩
        · have hnz : ((n : Int) + 1 == 0) = false := by simp; omega
          have hnz2 : ((n : Int) + 1 = 0) = False := by simp; omega
          rcases Classical.em (n + 1 ≤ 40) with h4 | h4 <;> cases b2
          all_goals
            (try have h5 : (n : Int) + 1 ≤ 40 := by omega)
            (try have h5 : (40 : Int) < (n : Int) + 1 := by omega)
            go_enter Tryd.func46, Tryd.ntmps46
            go_wp2_with (go_at_call 65; go_must (refine (isName_any nm _ hs).mono ?_; rintro e w2 ⟨rfl, hc⟩; rw [H1.out]; have q7 := (bE.keep hc (fun h => h)).cell 7 rfl; have p2 := (bP.keep hc (fun h => h)).cell 2 rfl))
            go_ret
            exact ⟨by simp <;> omega, hc0.trans hc (fun x hx => hx.elim)⟩
end Go.Proofs.YtngfimjbgopgjaaDoor
