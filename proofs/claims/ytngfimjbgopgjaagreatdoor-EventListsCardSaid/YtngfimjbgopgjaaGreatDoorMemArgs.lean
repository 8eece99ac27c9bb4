/- Mem, Args, in one text (merge.py). -/
import Derived.WalkKit
import Derived.Below
import Derived.Laws.OwnMore
import Derived.Laws.Rows
import Derived.Maps.AppendAt
import Derived.Deep.AppendLies
import Derived.Deep.Draws
import Derived.RegionTactic
import Derived.OwnWalk
import Derived.IntWalk
import Derived.Lib.Hide
import Derived.Test.YtngfimjbgopgjaaGreatDoorChecked
import Derived.ProofKit
import Derived.OpenShut
import Derived.Deep.Slices
/- Words for memory: what may have turned ('Chg'), a slice that reads as a list of cells ('Rd'), and append onto a row of the call's own, the source nil, empty or not. No program in sight. -/
namespace Go.Proofs.YtngfimjbgopgjaaGreatDoor
open Go.RowKit
set_option linter.unusedVariables false

/-! ### What may have turned: of the blocks that there were, those in S alone. -/
structure Chg (S : Nat → Prop) (w w' : World) : Prop where
  os : w'.os = w.os
  tape : w'.tape = w.tape
  output : w'.output = w.output
  size : w.heap.size ≤ w'.heap.size
  block : ∀ k, k < w.heap.size → ¬ S k → w'.heap[k]? = w.heap[k]?

section
variable {S T : Nat → Prop} {a b c : World}
theorem Chg.refl (S : Nat → Prop) (w : World) : Chg S w w := ⟨rfl, rfl, rfl, Nat.le_refl _, fun _ _ _ => rfl⟩
theorem Chg.trans (h : Chg S a b) (k : Chg T b c) (hT : ∀ x, T x → S x ∨ a.heap.size ≤ x) : Chg S a c :=
  ⟨k.os.trans h.os, k.tape.trans h.tape, k.output.trans h.output, Nat.le_trans h.size k.size, fun i hi hn =>
    (k.block i (Nat.lt_of_lt_of_le hi h.size) (fun ht => by rcases hT i ht with h' | h'; exact hn h'; omega)).trans (h.block i hi hn)⟩
theorem Chg.mono (h : Chg S a b) (hS : ∀ x, S x → T x ∨ a.heap.size ≤ x) : Chg T a b :=
  ⟨h.os, h.tape, h.output, h.size, fun i hi hn => h.block i hi (fun hs => by rcases hS i hs with h' | h'; exact hn h'; omega)⟩
theorem Chg.drew (h : Chg S a b) : Chg S a b.drew := ⟨h.os, h.tape, h.output, h.size, h.block⟩
theorem Chg.drewN (h : Chg S a b) (n : Nat) : Chg S a (b.drewN n) := ⟨h.os, h.tape, h.output, h.size, h.block⟩
theorem Chg.alloc (h : Chg S a b) (o : Obj) : Chg S a (b.alloc o) :=
  ⟨h.os, h.tape, h.output, Nat.le_trans h.size (by simp), fun i hi hn => (Below.heap_alloc b o i (Nat.lt_of_lt_of_le hi h.size)).trans (h.block i hi hn)⟩
theorem Chg.setCell (h : Chg S a b) {p : Addr} (hp : S p.block ∨ a.heap.size ≤ p.block) (u : Value) : Chg S a (b.setCell p u) :=
  ⟨h.os, h.tape, h.output, by simpa [World.setCell] using h.size, fun i hi hn => (Below.heap_setCell b p u i (by
    rintro rfl
    rcases hp with hp | hp
    · exact hn hp
    · omega)).trans (h.block i hi hn)⟩
theorem Chg.grown (h : Chg S a b) {row : Option Nat} (hg : b.grownBy c row) (hr : ∀ g, row = some g → S g ∨ a.heap.size ≤ g) : Chg S a c :=
  ⟨hg.os.trans h.os, hg.tape.trans h.tape, hg.output.trans h.output, Nat.le_trans h.size hg.size, fun i hi hn =>
    (hg.block i (Nat.lt_of_lt_of_le hi h.size) (fun e => by rcases hr i e.symm with h' | h'; exact hn h'; omega)).trans (h.block i hi hn)⟩
theorem Chg.below (h : Chg S a b) {B : Nat} (hB : B ≤ a.heap.size) (hS : ∀ x, S x → B ≤ x) : Below B a b :=
  ⟨h.os, h.tape, h.output, h.size, fun i hi => h.block i (by omega) (fun hs => by have := hS i hs; omega)⟩
theorem Chg.of_below {B : Nat} (h : Below B a b) : Chg (fun x => B ≤ x) a b := ⟨h.os, h.tape, h.output, h.size, fun i hi hn => h.block i (by omega)⟩
theorem Chg.of_grown {row : Option Nat} (hg : a.grownBy b row) : Chg (fun x => row = some x) a b := ⟨hg.os, hg.tape, hg.output, hg.size, fun i hi hn => hg.block i hi (fun e => hn e.symm)⟩
theorem Chg.cell (h : Chg S a b) {p : Addr} (hlt : p.block < a.heap.size) (hp : ¬ S p.block) : b.cell? p = a.cell? p := World.cell?_of_block (w := a) (h.block p.block hlt hp)
theorem Chg.frozen (h : Chg S a b) {p : Addr} (hlt : p.block < a.heap.size) (hp : ¬ S p.block) : b.frozen? p = a.frozen? p := World.frozen?_of_block (w := a) (h.block p.block hlt hp)
theorem Chg.cell_some (h : Chg S a b) {p : Addr} {u : Value} (hc : a.cell? p = some u) (hp : ¬ S p.block) : b.cell? p = some u :=
  (h.cell (World.block_lt_of_cell? a p hc) hp).trans hc
theorem Chg.heap_some (h : Chg S a b) {k : Nat} {o : Obj} (hc : a.heap[k]? = some o) (hp : ¬ S k) : b.heap[k]? = some o :=
  (h.block k (Array.getElem?_eq_some_iff.1 hc).1 hp).trans hc
theorem Chg.own (h : Chg S a b) {base : Nat} {e : TypeId} {size : Nat} {v : Value} {n : Nat} {xs : List Value} (ho : a.ownsRow base e size v n xs) (hv : ∀ g, v.ownBlock = some g → ¬ S g) : b.ownsRow base e size v n xs := by
  refine ⟨ho.1, ?_⟩
  rcases ho.2 with h' | ⟨g, cap, cur, rfl, hb, hg, r⟩
  · exact .inl h'
  · exact .inr ⟨g, cap, cur, rfl, hb, h.heap_some hg (hv g rfl), r⟩
end

/-! ### A slice that reads as a list of cells, nil let in. -/
def Rd (w : World) (A : Option Addr) (xs : List Value) : Prop :=
  xs = [] ∨ ∃ b o, A = some ⟨b, o, none⟩ ∧ ∀ j u, xs[j]? = some u → w.cell? ⟨b, o + j, none⟩ = some u
/-- The block that a slice lies in. -/
def blk (A : Option Addr) : Option Nat := A.map (·.block)
theorem ownBlock_slice (A : Option Addr) (n c : Nat) : (Value.slice A n c).ownBlock = blk A := by cases A <;> rfl
@[simp] theorem blk_none : blk none = none := rfl
@[simp] theorem blk_some (ad : Addr) : blk (some ad) = some ad.block := rfl
/-- The slice's block, if there is one, is none of S. -/
def Off (S : Nat → Prop) (A : Option Addr) : Prop := ∀ x, blk A = some x → ¬ S x
/-- The slice's block alone. -/
def In (A : Option Addr) : Nat → Prop := fun x => blk A = some x

section
variable {S : Nat → Prop} {w w' : World} {A : Option Addr} {xs : List Value}
theorem Rd.nil (w : World) (A : Option Addr) : Rd w A [] := .inl rfl
theorem Rd.keep (h : Rd w A xs) (hc : Chg S w w') (hA : Off S A) : Rd w' A xs := by
  rcases h with h | ⟨b, o, rfl, h⟩
  · exact .inl h
  · exact .inr ⟨b, o, rfl, fun j u hj => hc.cell_some (h j u hj) (hA b rfl)⟩
theorem Rd.keep' (h : Rd w A xs) (hc : Chg S w w') (hA : xs ≠ [] → Off S A) : Rd w' A xs := by
  by_cases hx : xs = []
  · exact .inl hx
  · exact h.keep hc (hA hx)
/-- Where something is read there is a block. -/
theorem Rd.old (h : Rd w A xs) (hx : xs ≠ []) : ∀ x, blk A = some x → x < w.heap.size := by
  rcases h with h | ⟨b, o, rfl, h⟩
  · exact absurd h hx
  · intro x hb
    cases hb
    rcases xs with _ | ⟨u, xs⟩
    · exact absurd rfl hx
    · exact World.block_lt_of_cell? w _ (h 0 u rfl)
theorem Rd.drew (h : Rd w A xs) : Rd w.drew A xs := h
theorem Rd.drewN (h : Rd w A xs) (n : Nat) : Rd (w.drewN n) A xs := h
theorem Rd.alloc (h : Rd w A xs) (o : Obj) : Rd (w.alloc o) A xs := h.keep (S := fun _ => False) ((Chg.refl _ _).alloc o) (fun _ _ h => h)
theorem Rd.below {B : Nat} (h : Rd w A xs) (hb : Below B w w') (hA : Off (fun x => B ≤ x) A) : Rd w' A xs := h.keep (Chg.of_below hb) hA
/-- The cell at k. -/
theorem Rd.at_ (h : Rd w A xs) {k : Nat} (hk : k < xs.length) : ∃ b o, A = some ⟨b, o, none⟩ ∧ w.cell? ⟨b, o + k, none⟩ = some xs[k] := by
  rcases h with rfl | ⟨b, o, rfl, h⟩
  · simp at hk
  · exact ⟨b, o, rfl, h k _ (List.getElem?_eq_getElem hk)⟩
theorem Rd.cells (h : Rd w A xs) {b o : Nat} (hA : A = some ⟨b, o, none⟩) : ∀ j u, xs[j]? = some u → w.cell? ⟨b, o + j, none⟩ = some u := by
  rcases h with rfl | ⟨b', o', e, h⟩
  · intro j u hj; simp at hj
  · rw [hA] at e
    cases e
    exact h
/-- From some cell on. -/
theorem Rd.drop {b o : Nat} (h : Rd w (some ⟨b, o, none⟩) xs) (k : Nat) : Rd w (some ⟨b, o + k, none⟩) (xs.drop k) := by
  refine .inr ⟨b, o + k, rfl, fun j u hj => ?_⟩
  rw [Nat.add_assoc]
  exact h.cells rfl (k + j) u (by simpa using hj)
theorem Rd.take (h : Rd w A xs) (k : Nat) : Rd w A (xs.take k) := by
  rcases h with rfl | ⟨b, o, rfl, h⟩
  · exact .inl (by simp)
  · refine .inr ⟨b, o, rfl, fun j u hj => h j u ?_⟩
    rw [List.getElem?_take] at hj
    split at hj
    · exact hj
    · cases hj
theorem Rd.of_own {base : Nat} {e : TypeId} {size n c : Nat} (h : w.ownsRow base e size (.slice A n c) n xs) : Rd w A xs := by
  rcases h.2 with ⟨hv, hn⟩ | ⟨g, cap, cur, hv, _, hg, _⟩
  · subst hn
    exact .inl (List.eq_nil_of_length_eq_zero (by simpa using h.1))
  · injection hv with hA _ _
    subst hA
    exact .inr ⟨g, 0, rfl, fun j u hj => by
      have := h.cells (g := g) rfl j u hj
      simpa [Addr.add_lit] using this⟩
theorem Chg.ownS {base : Nat} {e : TypeId} {size : Nat} {n c m : Nat} {ys : List Value} (h : Chg S w w') (ho : w.ownsRow base e size (.slice A n c) m ys) (hv : Off S A) : w'.ownsRow base e size (.slice A n c) m ys :=
  h.own ho (fun g hg => hv g (by rw [← hg, ownBlock_slice]))
theorem own_lt {base : Nat} {e : TypeId} {size : Nat} {n c m : Nat} {ys : List Value} (ho : w.ownsRow base e size (.slice A n c) m ys) {x : Nat} (hx : blk A = some x) : base ≤ x ∧ x < w.heap.size :=
  ho.lt x (by rw [ownBlock_slice]; exact hx)
theorem Rd.lt (h : Rd w A xs) (h0 : 0 < xs.length) : ∃ b o, A = some ⟨b, o, none⟩ ∧ b < w.heap.size := by
  obtain ⟨b, o, e, hc⟩ := h.at_ h0
  exact ⟨b, o, e, World.block_lt_of_cell? w _ hc⟩
end

/-- The one cell of a block just laid. -/
theorem Rd.new1 (w : World) (t : TypeId) (u : Value) : Rd (w.alloc (.cells #[u] t)) (some ⟨w.heap.size, 0, none⟩) [u] := by
  refine .inr ⟨w.heap.size, 0, rfl, fun j v hj => ?_⟩
  match j, hj with
  | 0, hj => simp at hj; subst hj; simp
theorem Rd.newRow (w : World) (t : TypeId) (cs : Array Value) (xs : List Value) (h : cs.toList = xs) : Rd (w.alloc (.cells cs t)) (some ⟨w.heap.size, 0, none⟩) xs := by
  refine .inr ⟨w.heap.size, 0, rfl, fun j v hj => ?_⟩
  subst h
  rw [cell_of_row _ _ _ cs t (0, 0) (heap_alloc_new w _)]
  simpa using hj
theorem one1 (u : Value) (h : u.oneCell' = true) : ∀ v ∈ [u], v.oneCell' = true := by simpa using h

/-! ### Two objects of the call's own, their blocks F and G apart, all of them new since w0. -/
structure Two (w0 w : World) (F G : Nat → Prop) : Prop where
  chg : Chg (fun _ => False) w0 w
  fl : ∀ x, F x → w0.heap.size ≤ x ∧ x < w.heap.size
  gl : ∀ x, G x → w0.heap.size ≤ x ∧ x < w.heap.size
  ap : ∀ x, F x → ¬ G x
section
variable {w0 w w' : World} {F G F' G' : Nat → Prop}
theorem Two.ap' (h : Two w0 w F G) : ∀ x, G x → ¬ F x := fun x hg hf => h.ap x hf hg
theorem Two.swap (h : Two w0 w F G) : Two w0 w G F := ⟨h.chg, h.gl, h.fl, h.ap'⟩
theorem Two.left (h : Two w0 w F G) (hc : Chg F w w') (hF : ∀ x, F' x → F x ∨ w.heap.size ≤ x) (hl : ∀ x, F' x → x < w'.heap.size) : Two w0 w' F' G := by
  refine ⟨h.chg.trans hc (fun x hx => .inr (h.fl x hx).1), fun x hx => ⟨?_, hl x hx⟩, fun x hx => ⟨(h.gl x hx).1, Nat.lt_of_lt_of_le (h.gl x hx).2 hc.size⟩, fun x hx hg => ?_⟩
  · rcases hF x hx with h1 | h1
    · exact (h.fl x h1).1
    · exact Nat.le_trans h.chg.size h1
  · rcases hF x hx with h1 | h1
    · exact h.ap x h1 hg
    · have := (h.gl x hg).2; omega
theorem Two.right (h : Two w0 w F G) (hc : Chg G w w') (hG : ∀ x, G' x → G x ∨ w.heap.size ≤ x) (hl : ∀ x, G' x → x < w'.heap.size) : Two w0 w' F G' :=
  (h.swap.left hc hG hl).swap
theorem Two.still (h : Two w0 w F G) (hc : Chg (fun _ => False) w w') : Two w0 w' F G :=
  ⟨h.chg.trans hc (fun x hx => hx.elim), fun x hx => ⟨(h.fl x hx).1, Nat.lt_of_lt_of_le (h.fl x hx).2 hc.size⟩, fun x hx => ⟨(h.gl x hx).1, Nat.lt_of_lt_of_le (h.gl x hx).2 hc.size⟩, h.ap⟩
/-- One object there is, another one comes. -/
theorem Two.come {w1 : World} (h0 : Chg (fun _ => False) w0 w) (hF : ∀ x, F x → w0.heap.size ≤ x ∧ x < w.heap.size) (h1 : Chg (fun _ => False) w w1) (hG : ∀ x, G x → w.heap.size ≤ x ∧ x < w1.heap.size) : Two w0 w1 F G :=
  ⟨h0.trans h1 (fun x hx => hx.elim), fun x hx => ⟨(hF x hx).1, Nat.lt_of_lt_of_le (hF x hx).2 h1.size⟩, fun x hx => ⟨Nat.le_trans h0.size (hG x hx).1, (hG x hx).2⟩,
    fun x hf hg => by have := (hF x hf).2; have := (hG x hg).1; omega⟩
end

/-! ### append onto a row of the call's own. -/
section
variable {P : Program} (w : World)

theorem run_append_none (base : Nat) (t ty e : TypeId) (i : TypeInfo) (size : Nat) (ht : P.underlying t = some (.slice e)) (hi : P.info? e = some i)
    (v : Value) (n : Nat) (xs : List Value) (hown : w.ownsRow base e size v n xs) (c : Nat) : (Builtin.append_ #[t, t] ty #[v, .slice none 0 c]).run P w = .ok v w := by
  rcases hown.2 with ⟨rfl, rfl⟩ | ⟨g, cap, cur, rfl, _, _, hnc, _⟩
  · simp [Builtin.append_, run_underlying ht, sizeOf, typeInfo, hi, Builtin.lenOf, Builtin.firstCells]
  · simp [Builtin.append_, run_underlying ht, sizeOf, typeInfo, hi, Builtin.lenOf, Builtin.firstCells, hnc, storeCells]

theorem run_append_rd (base : Nat) (t ty e : TypeId) (i : TypeInfo) (z : Value) (size bytes : Nat) (ht : P.underlying t = some (.slice e)) (hi : P.info? e = some i) (hz : i.zero = some z)
    (hsize : i.size = size) (hby : i.bytes = bytes) (hzs : z.cells.size = size) (hsz : 0 < size)
    (B : Option Addr) (n d : Nat) (xs : List Value) (hown : w.ownsRow base e size (.slice B n d) n xs)
    (A : Option Addr) (m c : Nat) (news : List Value) (hl : news.length = m * size) (hr : Rd w A news) (h1 : ∀ u ∈ news, u.oneCell' = true)
    (h63 : n + m ≤ maxLen) (hbytes : (n + m) * bytes ≤ 140737488355328) (hbase : base ≤ w.heap.size) :
    ∃ A' c' w', (Builtin.append_ #[t, t] ty #[.slice B n d, .slice A m c]).run P w = .ok (.slice A' (n + m) c') w' ∧ w'.ownsRow base e size (.slice A' (n + m) c') (n + m) (xs ++ news) ∧ Chg (In B) w w' ∧
      (blk A' = blk B ∨ blk A' = some w.heap.size) := by
  suffices H : ∃ v' w', (Builtin.append_ #[t, t] ty #[.slice B n d, .slice A m c]).run P w = .ok v' w' ∧ w'.ownsRow base e size v' (n + m) (xs ++ news) ∧ w.grownBy w' (blk B) ∧
      (v'.ownBlock = blk B ∨ v'.ownBlock = some w.heap.size) by
    obtain ⟨v', w', h1, h2, h3, h4⟩ := H
    have h5 : Chg (In B) w w' := Chg.of_grown h3
    rcases h2.2 with ⟨hv, hn⟩ | ⟨g, cap, cur, hv, _⟩
    · rw [hv, ← hn] at h1 h2 h4
      exact ⟨none, n + m, w', by rw [h1], by simpa using h2, h5, by simpa [Value.ownBlock] using h4⟩
    · subst hv
      exact ⟨some ⟨g, 0, none⟩, cap, w', h1, h2, h5, by simpa [Value.ownBlock] using h4⟩
  rcases Nat.eq_zero_or_pos m with rfl | hm
  · have hn : news = [] := List.eq_nil_of_length_eq_zero (by simpa using hl)
    subst hn
    rcases A with _ | ad
    · exact ⟨.slice B n d, w, run_append_none w base t ty e i size ht hi _ n xs hown c, by simpa using hown, World.grownBy.refl w _, .inl (ownBlock_slice _ _ _)⟩
    · obtain ⟨v', w', hrun, h2, h3, _, h5⟩ := run_append_own_at (P := P) w base t ty e i z size bytes ht hi hz hsize hby hzs hsz _ n xs hown ad 0 c [] hl (by intro j u hu; simp at hu) h1 h63 hbytes hbase
      rw [ownBlock_slice] at h3 h5
      exact ⟨v', w', hrun, h2, h3, h5⟩
  · have hpos : 0 < news.length := by rw [hl]; exact Nat.mul_pos hm hsz
    obtain ⟨b, o, rfl, _⟩ := hr.at_ hpos
    have hcells := hr.cells rfl
    obtain ⟨v', w', hrun, h2, h3, _, h5⟩ := run_append_own_at (P := P) w base t ty e i z size bytes ht hi hz hsize hby hzs hsz _ n xs hown ⟨b, o, none⟩ m c news hl
      (by intro j u hu; rw [Addr.add_lit]; exact hcells j u hu) h1 h63 hbytes hbase
    rw [ownBlock_slice] at h3 h5
    exact ⟨v', w', hrun, h2, h3, h5⟩

theorem wp_append_rd {o : Oper} {a : Act} {K : Act → World → Prop} {Q : Exit → Act → World → Prop} (s x : Operand) (t : TypeId)
    (ho : o.op = .call { callee := .builtin .append, args := #[s, x], argTypes := #[t, t] })
    (base : Nat) (e : TypeId) (i : TypeInfo) (z : Value) (size bytes : Nat) (ht : P.underlying t = some (.slice e)) (hi : P.info? e = some i) (hz : i.zero = some z)
    (hsize : i.size = size) (hby : i.bytes = bytes) (hzs : z.cells.size = size) (hsz : 0 < size)
    (B : Option Addr) (n d : Nat) (xs : List Value) (hs : a.eval s = .slice B n d) (hown : w.ownsRow base e size (.slice B n d) n xs)
    (A : Option Addr) (m c : Nat) (news : List Value) (hx : a.eval x = .slice A m c) (hl : news.length = m * size) (hr : Rd w A news) (h1 : ∀ u ∈ news, u.oneCell' = true)
    (h63 : n + m ≤ maxLen) (hbytes : (n + m) * bytes ≤ 140737488355328) (hbase : base ≤ w.heap.size)
    (h : ∀ A' c' w', w'.ownsRow base e size (.slice A' (n + m) c') (n + m) (xs ++ news) → Chg (In B) w w' → (blk A' = blk B ∨ blk A' = some w.heap.size) → K (a.put o.dst (.slice A' (n + m) c')) w') : o.wp P a w K Q := by
  obtain ⟨A', c', w', hrun, h2, h3, h4⟩ := run_append_rd (P := P) w base t o.type e i z size bytes ht hi hz hsize hby hzs hsz B n d xs hown A m c news hl hr h1 h63 hbytes hbase
  unfold Oper.wp execOp
  simp only [ho, resolve, invoke, builtin, Sem.run_bind, Sem.run_pure, Result.andThen_ok, List.map_toArray, List.map_cons, List.map_nil, hs, hx, hrun]
  exact h A' c' w' h2 h3 h4

theorem wpList_append_rd {ops : Array Oper} {rest : List Oper} {o : Oper} {a : Act} {Q : Exit → Act → World → Prop} (hgd : o.guard = none) (s x : Operand) (t : TypeId)
    (ho : o.op = .call { callee := .builtin .append, args := #[s, x], argTypes := #[t, t] })
    (base : Nat) (e : TypeId) (i : TypeInfo) (z : Value) (size bytes : Nat) (ht : P.underlying t = some (.slice e)) (hi : P.info? e = some i) (hz : i.zero = some z)
    (hsize : i.size = size) (hby : i.bytes = bytes) (hzs : z.cells.size = size) (hsz : 0 < size)
    (B : Option Addr) (n d : Nat) (xs : List Value) (hs : a.eval s = .slice B n d) (hown : w.ownsRow base e size (.slice B n d) n xs)
    (A : Option Addr) (m c : Nat) (news : List Value) (hx : a.eval x = .slice A m c) (hl : news.length = m * size) (hr : Rd w A news) (h1 : ∀ u ∈ news, u.oneCell' = true)
    (h63 : n + m ≤ maxLen) (hbytes : (n + m) * bytes ≤ 140737488355328) (hbase : base ≤ w.heap.size)
    (h : ∀ A' c' w', w'.ownsRow base e size (.slice A' (n + m) c') (n + m) (xs ++ news) → Chg (In B) w w' → (blk A' = blk B ∨ blk A' = some w.heap.size) → wpList P ops Q rest (a.put o.dst (.slice A' (n + m) c')) w') : wpList P ops Q (o :: rest) a w :=
  wpList_plain hgd fun _ hK => wp_append_rd w s x t ho base e i z size bytes ht hi hz hsize hby hzs hsz B n d xs hs hown A m c news hx hl hr h1 h63 hbytes hbase fun A' c' w' h2 h3 h4 => hK _ _ (h A' c' w' h2 h3 h4)

theorem step_append_rd {ops : Array Oper} {o : Oper} {a : Act} {K : Act → World → Prop} {Q : Exit → Act → World → Prop} {E : Prop} (hgd : o.guard = none) (s x : Operand) (t : TypeId)
    (ho : o.op = .call { callee := .builtin .append, args := #[s, x], argTypes := #[t, t] })
    (base : Nat) (e : TypeId) (i : TypeInfo) (z : Value) (size bytes : Nat) (ht : P.underlying t = some (.slice e)) (hi : P.info? e = some i) (hz : i.zero = some z)
    (hsize : i.size = size) (hby : i.bytes = bytes) (hzs : z.cells.size = size) (hsz : 0 < size)
    (B : Option Addr) (n d : Nat) (xs : List Value) (hs : a.eval s = .slice B n d) (hown : w.ownsRow base e size (.slice B n d) n xs)
    (A : Option Addr) (m c : Nat) (news : List Value) (hx : a.eval x = .slice A m c) (hl : news.length = m * size) (hr : Rd w A news) (h1 : ∀ u ∈ news, u.oneCell' = true)
    (h63 : n + m ≤ maxLen) (hbytes : (n + m) * bytes ≤ 140737488355328) (hbase : base ≤ w.heap.size)
    (h : ∀ A' c' w', w'.ownsRow base e size (.slice A' (n + m) c') (n + m) (xs ++ news) → Chg (In B) w w' → (blk A' = blk B ∨ blk A' = some w.heap.size) → K (a.put o.dst (.slice A' (n + m) c')) w') :
    if Region.wanted o (yielded ops a.tmps) = true then Oper.wp P o a w K Q else E := by
  have hw : Region.wanted o (yielded ops a.tmps) = true := by simp [Region.wanted, hgd]
  rw [if_pos hw]
  exact wp_append_rd w s x t ho base e i z size bytes ht hi hz hsize hby hzs hsz B n d xs hs hown A m c news hx hl hr h1 h63 hbytes hbase h
end
end Go.Proofs.YtngfimjbgopgjaaGreatDoor

/- Arguments that came in, in the walk's words: a slice of integers or of bytes that reads as a list, nil let in, within the form's own reach. -/
namespace Go.Proofs.YtngfimjbgopgjaaGreatDoor
open Go.ChangeShapes Go.WideShapes Go.ChangeAt Go.RowKit Go.Deep
set_option linter.unusedVariables false

/-- A slice of integers: it reads as the numbers zs, each fitting its kind. -/
def IntsOf (k : IntKind) (most : Nat) (w : World) (A : Option Addr) (n c : Nat) : Prop :=
  ∃ zs : List Int, zs.length = n ∧ n ≤ c ∧ c ≤ maxLen ∧ n ≤ most ∧ Rd w A (zs.map (Value.int k)) ∧ ∀ z ∈ zs, (Lit.int k z).wf = true

theorem IntsOf.keep {k : IntKind} {most : Nat} {w w' : World} {A : Option Addr} {n c : Nat} (h : IntsOf k most w A n c) (hc : Chg (fun _ => False) w w') : IntsOf k most w' A n c := by
  obtain ⟨zs, h1, h2, h3, h4, h5, h6⟩ := h
  exact ⟨zs, h1, h2, h3, h4, h5.keep hc (fun _ _ h => h), h6⟩

section
variable {H : Type} {enc : TypeId × Value → H} {P : Program} {w : World} {base : Nat} {spare : Nat → Bool} {held : Bool}
/-- Cells that lie one behind the other from an address on. -/
theorem Rd.of_add {a : Addr} {xs : List Value} (h : ∀ j u, xs[j]? = some u → w.cell? (a.add j) = some u) : Rd w (some a) xs := by
  rcases xs with _ | ⟨x, xs⟩
  · exact .inl rfl
  · obtain ⟨b, o, s⟩ := a
    have h1 := h 0 x rfl
    have hs : s = none := by simpa [Addr.add] using World.cell?_spot h1
    subst hs
    exact .inr ⟨b, o, rfl, fun j u hj => by have := h j u hj; rwa [Addr.add_lit] at this⟩

theorem open_IntsOf {t e : TypeId} {k : IntKind} {fuel : Nat} {A : Option Addr} {n c bytes most : Nat} {x : DataW H × List MemPlace} (ht : P.underlying t = some (.slice e)) (he : P.underlying e = some (.int k)) (hc : P.cellsOf e = 1)
    (hb : P.bytesOf e = bytes) (hbm : ∀ m, m * bytes ≤ reachBytes → m ≤ most)
    (h : DataW.trod enc P w base spare held fuel t [.slice A n c] = some x)
    (hsz : ∀ elems rest, x.1 = .slice elems rest → (elems.length + rest.length) * P.bytesOf e ≤ reachBytes) : IntsOf k most w A n c := by
  rcases open_ints ht he hc h with ⟨hcs, _⟩ | ⟨a, l, cp, zs, hcs, _, hl, hm, hz, hx, hcell, hwz⟩
  · simp at hcs
    obtain ⟨rfl, rfl, rfl⟩ := hcs
    exact ⟨[], rfl, Nat.le_refl _, Nat.zero_le _, Nat.zero_le _, .inl rfl, fun z hz => by cases hz⟩
  · simp at hcs
    obtain ⟨rfl, rfl, rfl⟩ := hcs
    have hzl : n ≤ zs.length := by rw [hz]; split <;> omega
    refine ⟨zs.take n, by rw [List.length_take]; omega, hl, hm, ?_, ?_, fun z hz => hwz z (List.mem_of_mem_take hz)⟩
    · have h1 := hsz _ _ (by rw [hx])
      rw [hb] at h1
      have h2 := hbm _ h1
      simp only [lits, List.length_map, List.length_take, List.length_drop] at h2
      omega
    · refine Rd.of_add fun j u hj => ?_
      rw [List.getElem?_map, List.getElem?_take] at hj
      by_cases hjn : j < n
      · rw [if_pos hjn, List.getElem?_eq_getElem (by omega)] at hj
        rw [hcell j (by omega), List.getD_eq_getElem?_getD, List.getElem?_eq_getElem (by omega)]
        simpa using hj
      · rw [if_neg hjn] at hj; cases hj
end

theorem str_reach {s : ByteArray} (h : s.data.toList.length ≤ reachBytes) : s.size ≤ 140737488351232 := by
  have h2 : s.size ≤ reachBytes := h
  simp only [reachBytes] at h2
  omega

/-- A []int. -/
def Ints (w : World) (A : Option Addr) (n c : Nat) : Prop := IntsOf .i64 17592186044416 w A n c
/-- A []byte. -/
def Bys (w : World) (A : Option Addr) (n c : Nat) : Prop := IntsOf .u8 140737488351232 w A n c
theorem cells_int : Tryz.prog.cellsOf 3 = 1 := by kernel_rfl
theorem cells_u8 : Tryz.prog.cellsOf 5 = 1 := by kernel_rfl
theorem bytes_int : Tryz.prog.bytesOf 3 = 8 := by kernel_rfl
theorem bytes_u8 : Tryz.prog.bytesOf 5 = 1 := by kernel_rfl

section
variable {H : Type} {enc : TypeId × Value → H} {W : World} {A : Option Addr} {n c : Nat} {d : DataW H} {p : List MemPlace}
theorem open_Ints (h : DataW.Trod enc Tryz.prog W 0 (fun _ => true) true 81 (.slice A n c) d p)
    (hsz : ∀ elems rest, d = .slice elems rest → (elems.length + rest.length) * Tryz.prog.bytesOf 3 ≤ reachBytes) : Ints W A n c := by
  obtain ⟨fuel, hf⟩ := h
  exact open_IntsOf Tryz.underlying81 Tryz.underlying3 cells_int bytes_int (fun m hm => by simp only [reachBytes] at hm; omega) (by simpa [Value.cells] using hf) hsz
theorem open_Bys (h : DataW.Trod enc Tryz.prog W 0 (fun _ => true) true 24 (.slice A n c) d p)
    (hsz : ∀ elems rest, d = .slice elems rest → (elems.length + rest.length) * Tryz.prog.bytesOf 5 ≤ reachBytes) : Bys W A n c := by
  obtain ⟨fuel, hf⟩ := h
  exact open_IntsOf Tryz.underlying24 Tryz.underlying5 cells_u8 bytes_u8 (fun m hm => by simp only [reachBytes] at hm; omega) (by simpa [Value.cells] using hf) hsz
end
end Go.Proofs.YtngfimjbgopgjaaGreatDoor
