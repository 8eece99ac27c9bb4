/- Net, NetDel, NetOps, NetPeek2, in one text (merge.py). -/
import Derived.Test.YtngfimjbgopgjaaGreatDoorIt
import Derived.Test.YtngfimjbgopgjaaGreatDoorOct
import Derived.Lib.SliceRun
import Derived.Lib.SlicesDelete
import Derived.Sort.WalkB12
import Derived.Laws.ResultCell
/- Packets and the net in memory; contracts of package net. -/
namespace Go.Proofs.YtngfimjbgopgjaaGreatDoor
open Go.RowKit
set_option linter.unusedVariables false

/-- A packet: from, to, the address and the capacity of its bytes, the bytes. -/
structure Pk where
  f : Int
  t : Int
  A : Option Addr
  c : Nat
  bs : List Int
/-- What a packet tells. -/
def Pk.v (p : Pk) : Int × Int × List Int := (p.f, p.t, p.bs)
/-- Packets, cell by cell. -/
def pkC : List Pk → List Value
  | [] => []
  | p :: l => .int .i64 p.f :: .int .i64 p.t :: .slice p.A p.bs.length p.c :: pkC l
theorem pkC_len (l : List Pk) : (pkC l).length = l.length * 3 := by
  induction l with
  | nil => rfl
  | cons x l ih => simp only [pkC, List.length_cons, ih]; omega
theorem pkC_app (l m : List Pk) : pkC (l ++ m) = pkC l ++ pkC m := by
  induction l with
  | nil => rfl
  | cons x l ih => simp [pkC, ih]
theorem pkC_one (l : List Pk) : ∀ u ∈ pkC l, u.oneCell' = true := by
  induction l with
  | nil => intro u hu; cases hu
  | cons x l ih =>
    intro u hu
    simp only [pkC, List.mem_cons] at hu
    rcases hu with rfl | rfl | rfl | hu
    · rfl
    · rfl
    · rfl
    · exact ih u hu
theorem pkC_get (l : List Pk) (k : Nat) (h : k < l.length) :
    (pkC l)[k * 3]? = some (.int .i64 l[k].f) ∧ (pkC l)[k * 3 + 1]? = some (.int .i64 l[k].t) ∧ (pkC l)[k * 3 + 2]? = some (.slice l[k].A l[k].bs.length l[k].c) := by
  induction l generalizing k with
  | nil => simp at h
  | cons x l ih =>
    cases k with
    | zero => exact ⟨rfl, rfl, rfl⟩
    | succ k =>
      have := ih k (by simpa using h)
      rw [show (k + 1) * 3 = k * 3 + 1 + 1 + 1 by omega]
      simpa [pkC] using this
theorem pkC_drop (l : List Pk) (k : Nat) : (pkC l).drop (k * 3) = pkC (l.drop k) := by
  induction l generalizing k with
  | nil => simp [pkC]
  | cons x l ih =>
    cases k with
    | zero => simp
    | succ k =>
      rw [show (k + 1) * 3 = k * 3 + 1 + 1 + 1 by omega]
      simpa [pkC] using ih k
theorem pkC_take (l : List Pk) (k : Nat) : (pkC l).take (k * 3) = pkC (l.take k) := by
  induction l generalizing k with
  | nil => simp [pkC]
  | cons x l ih =>
    cases k with
    | zero => simp [pkC]
    | succ k =>
      rw [show (k + 1) * 3 = k * 3 + 1 + 1 + 1 by omega]
      simpa [pkC] using ih k

/-- The net's own blocks: those that its calls turn. -/
def nCore (g : Nat) (A : Option Addr) : Nat → Prop := fun x => x = g ∨ In A x
/-- The blocks of packets' bytes. -/
def nByt (ps : List Pk) : Nat → Prop := fun x => ∃ p ∈ ps, p.bs ≠ [] ∧ blk p.A = some x

section
variable {w w' : World} {base g c : Nat} {A : Option Addr} {ps : List Pk} {lost : Int}
end
/-- Fresh bytes: they read so, and lie in a new block, if they are any. -/
def Fresh (w w' : World) (A : Option Addr) (bs : List Int) : Prop := Rd w' A (bs.map (Value.int .u8)) ∧ (bs ≠ [] → ∀ x, blk A = some x → w.heap.size ≤ x ∧ x < w'.heap.size)

section
variable {w w' : World} {g : Nat} {f t : Int} {s : Value}
end

end Go.Proofs.YtngfimjbgopgjaaGreatDoor

/- Contract of slices.Delete over packets, one of them. -/
namespace Go.Proofs.YtngfimjbgopgjaaGreatDoor
open Go.RowKit
set_option linter.unusedVariables false

theorem heap_setCells {g : Nat} {T : TypeId} {fr : Nat × Nat} : ∀ (vs : List Value) (o : Nat) (w : World) (cur : Array Value), w.heap[g]? = some (.cells cur T fr) →
    ∃ cur' : Array Value, (w.setCells g o vs).heap[g]? = some (.cells cur' T fr) ∧ cur'.size = cur.size ∧ (o + vs.length ≤ cur.size → cur'.toList = cur.toList.take o ++ vs ++ cur.toList.drop (o + vs.length))
  | [], o, w, cur, h => ⟨cur, h, rfl, fun _ => by simp⟩
  | v :: r, o, w, cur, h => by
    have h1 : (w.setCell ⟨g, o, none⟩ v).heap[g]? = some (.cells (cur.setIfInBounds o v) T fr) := by simp [World.setCell, Array.getElem?_modify, h]
    obtain ⟨cur', h2, h3, h4⟩ := heap_setCells r (o + 1) _ _ h1
    refine ⟨cur', h2, by simpa using h3, fun hl => ?_⟩
    simp only [List.length_cons] at hl
    have h5 := h4 (by simp; omega)
    rw [h5, Array.toList_setIfInBounds]
    have ho : o < cur.toList.length := by simp; omega
    apply List.ext_getElem?
    intro i
    simp only [List.length_cons, List.append_assoc, List.cons_append]
    have e1 : (List.take (o + 1) (cur.toList.set o v)) = cur.toList.take o ++ [v] := by
      rw [List.take_add_one, List.getElem?_set_self ho, List.take_set_of_le (Nat.le_refl _)]
      rfl
    have e2 : (cur.toList.set o v).drop (o + 1 + r.length) = cur.toList.drop (o + (r.length + 1)) := by
      rw [List.drop_set_of_lt (by omega)]
      congr 1
      omega
    rw [e1, e2]
    simp

theorem chg_setCells {S : Nat → Prop} {g : Nat} (hg : S g) : ∀ (vs : List Value) (o : Nat) (w0 w : World), Chg S w0 w → Chg S w0 (w.setCells g o vs)
  | [], _, _, _, h => h
  | v :: r, o, w0, w, h => chg_setCells hg r (o + 1) w0 _ (h.setCell (p := ⟨g, o, none⟩) (.inl hg) v)

theorem run_clear_one {P : Program} (w : World) (t e ty : TypeId) (z : Value) (zs : List Value) (ht : P.underlying t = some (.slice e)) (hv : ∀ w, (zeroValue e).run P w = .ok z w) (hz : (Builtin.zeroCells z.cells 1).toList = zs) (h1 : ∀ u ∈ zs, u.oneCell' = true) (b o c : Nat)
    (hc : ∀ j, j < zs.length → (w.cell? ⟨b, o + j, none⟩).isSome = true) (hf : ∀ j, j < zs.length → w.frozen? ⟨b, o + j, none⟩ = false) :
    (Builtin.clear_ #[t] ty #[.slice (some ⟨b, o, none⟩) 1 c]).run P w = .ok (.tuple #[]) (w.setCells b o zs) := by
  have hst := run_storeCells_cells (P := P) b o zs 0 w (by simpa using hc) (by simpa using hf) h1
  simp only [Nat.add_zero] at hst
  simp [Builtin.clear_, run_underlying ht, hv, hz, hst]

theorem zeroPk3 : (Builtin.zeroCells (Value.agg #[.int .i64 0, .int .i64 0, .slice none 0 0]).cells 1).toList = [.int .i64 0, .int .i64 0, .slice none 0 0] := by kernel_rfl

end Go.Proofs.YtngfimjbgopgjaaGreatDoor

/- Contracts of net.Put, Peek, Take, Double, Lose. -/
namespace Go.Proofs.YtngfimjbgopgjaaGreatDoor
open Go.RowKit
set_option linter.unusedVariables false

theorem results_cell_row_tmp {P : Program} {fn : Func} {p u : Tmp} {ty : TypeId} (h : fn.results = #[.cell p ty, .tmp u]) (tmps : Array Value) (w : World) (g : Nat) (t : TypeId) (cs : Array Value) (fr : Nat × Nat) (d : TypeDesc)
    (hp : tmps.getD p undef = .pointer (some ⟨g, 0, none⟩)) (hg : w.heap[g]? = some (.cells cs t fr))
    (hu : P.underlying ty = some d) (hd : (match d with | .struct _ | .array _ _ => true | _ => false) = true) (hi : (P.info? ty).map (·.size) = some cs.size) :
    (results fn tmps).run P w = .ok (.tuple #[.agg cs, tmps.getD u undef]) w := by
  rw [results_cell_tmp h, hp]
  simp [asAddr, run_loadVar_row w g t ty cs fr d hg hu hd hi, Result.andThen]

/-- The packets but for one. -/
def butAt (ps : List Pk) (k : Nat) : List Pk := ps.take k ++ ps.drop (k + 1)
theorem butAt_sub {ps : List Pk} {k : Nat} : ∀ p ∈ butAt ps k, p ∈ ps := fun p hp => by
  rcases List.mem_append.1 hp with h | h
  · exact List.mem_of_mem_take h
  · exact List.mem_of_mem_drop h
theorem butAt_len {ps : List Pk} {k : Nat} (hk : k < ps.length) : (butAt ps k).length = ps.length - 1 := by
  unfold butAt
  rw [List.length_append, List.length_take, List.length_drop]
  omega

end Go.Proofs.YtngfimjbgopgjaaGreatDoor

/- Contract of net.Peek, told sharper: the copy's bytes are a row of the call's own. -/
namespace Go.Proofs.YtngfimjbgopgjaaGreatDoor
open Go.RowKit
set_option linter.unusedVariables false

theorem own_mono {w : World} {base base' : Nat} {e : TypeId} {size : Nat} {v : Value} {n : Nat} {xs : List Value} (h : w.ownsRow base e size v n xs) (hb : base' ≤ base) : w.ownsRow base' e size v n xs := by
  refine ⟨h.1, ?_⟩
  rcases h.2 with h | ⟨g, cap, cur, h1, h2, h3⟩
  · exact .inl h
  · exact .inr ⟨g, cap, cur, h1, Nat.le_trans hb h2, h3⟩

end Go.Proofs.YtngfimjbgopgjaaGreatDoor
