/- Contract of event.Lay at any event. -/
import Derived.Test.YtngfimjbgopgjaaDoorEvLayG
namespace Go.Proofs.YtngfimjbgopgjaaDoor
open Go.RowKit
set_option linter.unusedVariables false

theorem needsB_len {c : Int} : ∀ {l : List Int} {a : Int}, needsB a c l = true → l = [] ∨ (l.length : Int) ≤ c - 1 - a
  | [], _, _ => .inl rfl
  | n :: l, a, h => by
    simp only [needsB, Bool.and_eq_true, decide_eq_true_eq] at h
    obtain ⟨⟨h1, h2⟩, h3⟩ := h
    rcases needsB_len h3 with h4 | h4
    · subst h4
      right
      simp
      omega
    · right
      rw [List.length_cons]
      omega
/-- What is right is short. -/
theorem rightEB_short {id ver tm ty node m : Int} {nm : ByteArray} {n : Nat} {dl : List (List Int × Int × Int)} (h : rightEB id ver tm ty node m nm n dl = true) : nm.size ≤ 16 ∧ n ≤ 40 ∧ dl.length ≤ 8 ∧ ∀ d ∈ dl, d.1.length ≤ 8 := by
  simp only [rightEB, Bool.and_eq_true] at h
  obtain ⟨_, _, _, _, _, h5, h6⟩ := h
  simp only [txtB, Bool.and_eq_true, Bool.or_eq_true, decide_eq_true_eq, Bool.not_eq_true'] at h5
  obtain ⟨⟨h7, h8⟩, h9⟩ := h5
  refine ⟨?_, ?_, ?_⟩
  · rcases h8 with h8 | h8
    · rw [h8] at h7
      have : nm.size = 0 := by simpa using h7
      omega
    · simp only [isNameB, Bool.and_eq_true, decide_eq_true_eq] at h8
      omega
  · omega
  · by_cases hd : defsB ty = true
    · rw [if_pos hd] at h6
      simp only [rightDefsB, Bool.and_eq_true, decide_eq_true_eq, List.all_eq_true] at h6
      obtain ⟨h10, h11, h12⟩ := h6
      refine ⟨by omega, fun d hdm => ?_⟩
      have h13 := h10 d hdm
      simp only [rightDefB, Bool.and_eq_true] at h13
      rcases needsB_len h13.1 with h14 | h14
      · rw [h14]; simp
      · omega
    · rw [if_neg hd] at h6
      have : dl.length = 0 := by simpa using h6
      have h0 : dl = [] := List.length_eq_zero_iff.1 this
      subst h0
      exact ⟨by simp, fun d hd => by cases hd⟩

theorem layG_no (id ver tm ty node m : Int) (nm : ByteArray) (A : Option Addr) (n c : Nat) (D : Option Addr) (dn dc : Nat) (w : World)
    (hR : ∀ w', Chg (fun _ => False) w w' → Calls Tryd.prog 10 #[.agg #[.int .i64 id, .int .i64 ver, .int .i64 tm, .int .i64 ty, .int .i64 node, .int .i64 m, .string nm, .slice A n c, .slice D dn dc]] w' fun e w'' => e = .returned (.bool false) ∧ Chg (fun _ => False) w' w'') :
    Calls Tryd.prog 8 #[.agg #[.int .i64 id, .int .i64 ver, .int .i64 tm, .int .i64 ty, .int .i64 node, .int .i64 m, .string nm, .slice A n c, .slice D dn dc]] w fun e w' => e = .returned (.tuple #[.slice none 0 0, .int .i64 1]) ∧ Chg (fun _ => False) w w' := by
  have hc0 : Chg (fun _ => False) w (w.alloc (.cells #[.int .i64 id, .int .i64 ver, .int .i64 tm, .int .i64 ty, .int .i64 node, .int .i64 m, .string nm, .slice A n c, .slice D dn dc] 28)) := (Chg.refl _ _).alloc _
  have hRR := hR _ hc0
  go_enter Tryd.func8, Tryd.ntmps8
  go_wp2_with (go_at_call 10; go_must (refine hRR.mono ?_; rintro e w1 ⟨rfl, hc1⟩))
  go_ret2
  exact ⟨rfl, hc0.trans hc1 (fun x hx => hx.elim)⟩

theorem layG_any (id ver tm ty node m : Int) (nm : ByteArray) (A : Option Addr) (n c : Nat) (bs : List Int) (D : Option Addr) (dn dc : Nat) (dl : List Df) (w : World) (hrd : Rd w A (bs.map (Value.int .u8))) (hn : bs.length = n) (hs : nm.size ≤ 140737488355328) (hD : RdDf w D dl) (hdn : dl.length = dn) (hdn2 : dn ≤ 17592186044416) (hns : ∀ d ∈ dl, d.ns.length ≤ 17592186044416) :
    Calls Tryd.prog 8 #[.agg #[.int .i64 id, .int .i64 ver, .int .i64 tm, .int .i64 ty, .int .i64 node, .int .i64 m, .string nm, .slice A n c, .slice D dn dc]] w fun e w' =>
      ((rightEB id ver tm ty node m nm n (dl.map Df.v) = true ∧ ∃ A' c', e = .returned (.tuple #[.slice A' (evGB id ver tm ty node m nm bs (dl.map Df.v)).length c', .int .i64 0]) ∧ w'.ownsRow w.heap.size 5 1 (.slice A' (evGB id ver tm ty node m nm bs (dl.map Df.v)).length c') (evGB id ver tm ty node m nm bs (dl.map Df.v)).length ((evGB id ver tm ty node m nm bs (dl.map Df.v)).map (Value.int .u8))) ∨
       (rightEB id ver tm ty node m nm n (dl.map Df.v) = false ∧ e = .returned (.tuple #[.slice none 0 0, .int .i64 1]))) ∧ Chg (fun _ => False) w w' := by
  have hR : ∀ w', Chg (fun _ => False) w w' → Calls Tryd.prog 10 #[.agg #[.int .i64 id, .int .i64 ver, .int .i64 tm, .int .i64 ty, .int .i64 node, .int .i64 m, .string nm, .slice A n c, .slice D dn dc]] w' fun e w'' => e = .returned (.bool (rightEB id ver tm ty node m nm n (dl.map Df.v))) ∧ Chg (fun _ => False) w' w'' :=
    fun w' hw => rightE_any id ver tm ty node m nm A n c D dn dc dl w' hs (hD.still hw) hdn hdn2 hns
  cases hb : rightEB id ver tm ty node m nm n (dl.map Df.v)
  · rw [hb] at hR
    exact (layG_no id ver tm ty node m nm A n c D dn dc w hR).mono fun e w' ⟨h1, h2⟩ => ⟨.inr ⟨rfl, h1⟩, h2⟩
  · rw [hb] at hR
    obtain ⟨k1, k2, k3, k4⟩ := rightEB_short hb
    exact (layG_yes id ver tm ty node m nm A n c bs D dn dc dl w hrd hn k2 k1 hD hdn (by rw [← hdn]; simpa using k3) (fun d hd => k4 d.v (List.mem_map_of_mem hd)) hR).mono fun e w' ⟨A', c', h1, h2, h3⟩ => ⟨.inl ⟨rfl, A', c', h1, h2⟩, h3⟩
end Go.Proofs.YtngfimjbgopgjaaDoor
