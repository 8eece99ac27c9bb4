/- Packets and the net in memory; contracts of package net. -/
import Derived.Test.YtngfimjbgopgjaaDoorIt
import Derived.Test.YtngfimjbgopgjaaDoorOct
import Derived.Lib.SliceRun
namespace Go.Proofs.YtngfimjbgopgjaaDoor
open Go.RowKit
set_option linter.unusedVariables false

/-- A packet: from, to, the address and the capacity of its bytes, the bytes. -/
structure Pk where
  f : Int
  t : Int
  A : Option Addr
  c : Nat
  bs : List Int
/-- What a packet tells. -/
def Pk.v (p : Pk) : Int × Int × List Int := (p.f, p.t, p.bs)
/-- Packets, cell by cell. -/
def pkC : List Pk → List Value
  | [] => []
  | p :: l => .int .i64 p.f :: .int .i64 p.t :: .slice p.A p.bs.length p.c :: pkC l
theorem pkC_len (l : List Pk) : (pkC l).length = l.length * 3 := by
  induction l with
  | nil => rfl
  | cons x l ih => simp only [pkC, List.length_cons, ih]; omega
theorem pkC_app (l m : List Pk) : pkC (l ++ m) = pkC l ++ pkC m := by
  induction l with
  | nil => rfl
  | cons x l ih => simp [pkC, ih]
theorem pkC_one (l : List Pk) : ∀ u ∈ pkC l, u.oneCell' = true := by
  induction l with
  | nil => intro u hu; cases hu
  | cons x l ih =>
    intro u hu
    simp only [pkC, List.mem_cons] at hu
    rcases hu with rfl | rfl | rfl | hu
    · rfl
    · rfl
    · rfl
    · exact ih u hu
theorem pkC_get (l : List Pk) (k : Nat) (h : k < l.length) :
    (pkC l)[k * 3]? = some (.int .i64 l[k].f) ∧ (pkC l)[k * 3 + 1]? = some (.int .i64 l[k].t) ∧ (pkC l)[k * 3 + 2]? = some (.slice l[k].A l[k].bs.length l[k].c) := by
  induction l generalizing k with
  | nil => simp at h
  | cons x l ih =>
    cases k with
    | zero => exact ⟨rfl, rfl, rfl⟩
    | succ k =>
      have := ih k (by simpa using h)
      rw [show (k + 1) * 3 = k * 3 + 1 + 1 + 1 by omega]
      simpa [pkC] using this
theorem pkC_drop (l : List Pk) (k : Nat) : (pkC l).drop (k * 3) = pkC (l.drop k) := by
  induction l generalizing k with
  | nil => simp [pkC]
  | cons x l ih =>
    cases k with
    | zero => simp
    | succ k =>
      rw [show (k + 1) * 3 = k * 3 + 1 + 1 + 1 by omega]
      simpa [pkC] using ih k
theorem pkC_take (l : List Pk) (k : Nat) : (pkC l).take (k * 3) = pkC (l.take k) := by
  induction l generalizing k with
  | nil => simp [pkC]
  | cons x l ih =>
    cases k with
    | zero => simp [pkC]
    | succ k =>
      rw [show (k + 1) * 3 = k * 3 + 1 + 1 + 1 by omega]
      simpa [pkC] using ih k

/-- The net's own blocks: those that its calls turn. -/
def nCore (g : Nat) (A : Option Addr) : Nat → Prop := fun x => x = g ∨ In A x
/-- The blocks of packets' bytes. -/
def nByt (ps : List Pk) : Nat → Prop := fun x => ∃ p ∈ ps, p.bs ≠ [] ∧ blk p.A = some x

section
variable {w w' : World} {base g c : Nat} {A : Option Addr} {ps : List Pk} {lost : Int}
end
/-- Fresh bytes: they read so, and lie in a new block, if they are any. -/
def Fresh (w w' : World) (A : Option Addr) (bs : List Int) : Prop := Rd w' A (bs.map (Value.int .u8)) ∧ (bs ≠ [] → ∀ x, blk A = some x → w.heap.size ≤ x ∧ x < w'.heap.size)

set_option maxHeartbeats 1000000 in
set_option maxRecDepth 20000 in
theorem cloneB_any (A : Option Addr) (n c : Nat) (bs : List Int) (w : World) (h : Rd w A (bs.map (Value.int .u8))) (hn : bs.length = n) (hn2 : n ≤ 140737488355328) :
    Calls Tryd.prog 71 #[.slice A n c] w fun e w' => ∃ A' c', e = .returned (.slice A' n c') ∧ Fresh w w' A' bs ∧ Chg (fun _ => False) w w' := by
  subst hn
  obtain ⟨i0, hi, hz0, hz1, hz2⟩ := info_parts byteInfo
  have q : ∀ (w : World) (a : Option Addr) (n c n' c' : Nat), (binOp .eql 22 (.slice a n c) (.slice none n' c')).run Tryd.prog w = .ok (.bool a.isNone) w := fun w a n c n' c' => Lib.run_eql_slice_nil w _ _ a n c n' c' Tryd.underlying22
  have hl1 : 0 + bs.length ≤ maxLen := by simp only [maxLen]; omega
  have hl2 : (0 + bs.length) * 1 ≤ 140737488355328 := by omega
  have hmade : (w.alloc (.cells #[] 5)).ownsRow w.heap.size 5 1 (.slice (some ⟨w.heap.size, 0, none⟩) 0 0) 0 [] := World.ownsRow_made w #[] 0 (Nat.le_refl _) (by decide) rfl
  rcases A with _ | ad
  · have hl : bs = [] := by
      rcases h with h | ⟨b, o, e, _⟩
      · rcases bs with _ | ⟨x, l⟩
        · rfl
        · cases h
      · cases e
    subst hl
    go_enter Tryd.func71, Tryd.ntmps71
    go_wp2_with fail
    go_ret
    exact ⟨none, 0, rfl, ⟨Rd.nil _ _, fun h => absurd rfl h⟩, Chg.refl _ _⟩
  · go_enter Tryd.func71, Tryd.ntmps71
    go_wp2_with (at_builtin; refine wpList_append_rd _ rfl (.tmp 5) (.tmp 6) 22 rfl w.heap.size 5 i0 _ 1 1 Tryd.underlying22 hi hz0 hz1 hz2 rfl (by decide) (some ⟨w.heap.size, 0, none⟩) 0 0 [] rfl hmade (some ad) bs.length c (bs.map (Value.int .u8)) rfl (by simp) (Rd.alloc h _) (u8s_one _) hl1 hl2 (by simp) ?_; intro A2 c2 w2 hown2 hg2 hb2)
    go_ret
    simp only [Nat.zero_add, List.nil_append] at hown2
    exact ⟨A2, c2, by simp, ⟨Rd.of_own hown2, fun _ x hx => own_lt hown2 hx⟩, ((Chg.refl _ w).alloc _).trans hg2 (by intro x hx; cases hx; exact .inr (Nat.le_refl _))⟩

section
variable {w w' : World} {g : Nat} {f t : Int} {s : Value}
end

end Go.Proofs.YtngfimjbgopgjaaDoor
