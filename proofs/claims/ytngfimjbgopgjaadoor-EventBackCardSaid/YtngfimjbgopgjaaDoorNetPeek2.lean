/- Contract of net.Peek, told sharper: the copy's bytes are a row of the call's own. -/
import Derived.Test.YtngfimjbgopgjaaDoorNetOps
namespace Go.Proofs.YtngfimjbgopgjaaDoor
open Go.RowKit
set_option linter.unusedVariables false

theorem own_mono {w : World} {base base' : Nat} {e : TypeId} {size : Nat} {v : Value} {n : Nat} {xs : List Value} (h : w.ownsRow base e size v n xs) (hb : base' ≤ base) : w.ownsRow base' e size v n xs := by
  refine ⟨h.1, ?_⟩
  rcases h.2 with h | ⟨g, cap, cur, h1, h2, h3⟩
  · exact .inl h
  · exact .inr ⟨g, cap, cur, h1, Nat.le_trans hb h2, h3⟩

set_option maxHeartbeats 1000000 in
set_option maxRecDepth 20000 in
theorem cloneB_own (A : Option Addr) (n c : Nat) (bs : List Int) (w : World) (h : Rd w A (bs.map (Value.int .u8))) (hn : bs.length = n) (hn2 : n ≤ 140737488355328) :
    Calls Tryd.prog 71 #[.slice A n c] w fun e w' => ∃ A' c', e = .returned (.slice A' n c') ∧ w'.ownsRow w.heap.size 5 1 (.slice A' n c') n (bs.map (Value.int .u8)) ∧ Chg (fun _ => False) w w' := by
  subst hn
  obtain ⟨i0, hi, hz0, hz1, hz2⟩ := info_parts byteInfo
  have q : ∀ (w : World) (a : Option Addr) (n c n' c' : Nat), (binOp .eql 22 (.slice a n c) (.slice none n' c')).run Tryd.prog w = .ok (.bool a.isNone) w := fun w a n c n' c' => Lib.run_eql_slice_nil w _ _ a n c n' c' Tryd.underlying22
  have hl1 : 0 + bs.length ≤ maxLen := by simp only [maxLen]; omega
  have hl2 : (0 + bs.length) * 1 ≤ 140737488355328 := by omega
  have hmade : (w.alloc (.cells #[] 5)).ownsRow w.heap.size 5 1 (.slice (some ⟨w.heap.size, 0, none⟩) 0 0) 0 [] := World.ownsRow_made w #[] 0 (Nat.le_refl _) (by decide) rfl
  rcases A with _ | ad
  · have hl : bs = [] := by
      rcases h with h | ⟨b, o, e, _⟩
      · rcases bs with _ | ⟨x, l⟩
        · rfl
        · cases h
      · cases e
    subst hl
    go_enter Tryd.func71, Tryd.ntmps71
    go_wp2_with fail
    go_ret
    exact ⟨none, 0, rfl, World.ownsRow_nil _ _ _ _, Chg.refl _ _⟩
  · go_enter Tryd.func71, Tryd.ntmps71
    go_wp2_with (at_builtin; refine wpList_append_rd _ rfl (.tmp 5) (.tmp 6) 22 rfl w.heap.size 5 i0 _ 1 1 Tryd.underlying22 hi hz0 hz1 hz2 rfl (by decide) (some ⟨w.heap.size, 0, none⟩) 0 0 [] rfl hmade (some ad) bs.length c (bs.map (Value.int .u8)) rfl (by simp) (Rd.alloc h _) (u8s_one _) hl1 hl2 (by simp) ?_; intro A2 c2 w2 hown2 hg2 hb2)
    go_ret
    simp only [Nat.zero_add, List.nil_append] at hown2
    exact ⟨A2, c2, by simp, hown2, ((Chg.refl _ w).alloc _).trans hg2 (by intro x hx; cases hx; exact .inr (Nat.le_refl _))⟩

end Go.Proofs.YtngfimjbgopgjaaDoor
