/- A slice of Steps that came in, small in all ('..Upto'): no Step's bytes are more than the bound. -/
import Derived.Test.YtngfimjbgopgjaaRows
import Derived.Test.YtngfimjbgopgjaaSteps
namespace Go.Proofs.Ytngfimjbgopgjaa
open Go.ChangeShapes Go.WideShapes Go.ChangeAt Go.RowKit Go.Deep
set_option linter.unusedVariables false

theorem bulk_one {H : Type} (d : DataW H) : 1 ≤ Rows.uptoBulk d := by
  cases d with
  | lit l => cases l <;> simp [Rows.uptoBulk]
  | nil => simp [Rows.uptoBulk]
  | ptr d => simp [Rows.uptoBulk]
  | slice elems spare => simp [Rows.uptoBulk]
  | agg parts => simp [Rows.uptoBulk]
  | iface t d => simp [Rows.uptoBulk]
  | map entries => simp [Rows.uptoBulk]
  | held h => simp [Rows.uptoBulk]
theorem bulk_part {H : Type} {d : DataW H} {l : List (DataW H)} (h : d ∈ l) : Rows.uptoBulk d ≤ Rows.uptoBulkAll l := by
  induction l with
  | nil => cases h
  | cons x r ih =>
    simp only [Rows.uptoBulkAll]
    rcases List.mem_cons.1 h with e | e
    · subst e; omega
    · have := ih e; omega
theorem bulk_length {H : Type} (l : List (DataW H)) : l.length ≤ Rows.uptoBulkAll l := by
  induction l with
  | nil => simp [Rows.uptoBulkAll]
  | cons x r ih => have := bulk_one x; simp only [Rows.uptoBulkAll, List.length_cons]; omega
theorem bulk_slice {H : Type} (elems spare : List (DataW H)) : elems.length ≤ Rows.uptoBulk (.slice elems spare) := by
  have := bulk_length elems
  simp only [Rows.uptoBulk]
  omega
theorem bulk_elem {H : Type} {elems spare : List (DataW H)} {d : DataW H} (h : d ∈ elems) : Rows.uptoBulk d ≤ Rows.uptoBulk (.slice elems spare) := by
  have := bulk_part h
  simp only [Rows.uptoBulk]
  omega
theorem bulk_agg {H : Type} {parts : List (DataW H)} {d : DataW H} (h : d ∈ parts) : Rows.uptoBulk d ≤ Rows.uptoBulk (.agg parts) := by
  have := bulk_part h
  simp only [Rows.uptoBulk]
  omega

section
variable {H : Type} {enc : TypeId × Value → H} {P : Program} {w : World} {base : Nat} {spare : Nat → Bool} {held : Bool}
/-- As 'open_elems', the element's datum told, too: it is one of the slice's. -/
theorem open_elems_d {α : Type} [Inhabited α] {t e : TypeId} {fuel k : Nat} {A : Option Addr} {n c : Nat} {x : DataW H × List MemPlace} (ht : P.underlying t = some (.slice e)) (hk : P.cellsOf e = k) (hk0 : 0 < k)
    (h : DataW.trod enc P w base spare held fuel t [.slice A n c] = some x) (Q : List Value → DataW H → α → Prop)
    (hQ : ∀ m cs y, DataW.trod enc P w base spare held m e cs = some y → ∃ a, Q cs y.1 a) :
    n ≤ c ∧ c ≤ maxLen ∧ ∃ f : Nat → α, ∀ i, i < n → ∃ b o cs d, A = some ⟨b, o, none⟩ ∧ cs.length = k ∧ (∀ j u, cs[j]? = some u → w.cell? ⟨b, o + i * k + j, none⟩ = some u) ∧ Q cs d (f i) ∧ Rows.uptoBulk d ≤ Rows.uptoBulk x.1 := by
  rcases open_slice ht h with ⟨hcs, _⟩ | ⟨a, l, cp, m, fu, D, Pl, hcs, _, hl, hm, hmm, hxx, hx⟩
  · simp at hcs
    obtain ⟨rfl, rfl, rfl⟩ := hcs
    exact ⟨Nat.le_refl _, Nat.zero_le _, fun _ => default, fun i hi => absurd hi (by omega)⟩
  · simp at hcs
    obtain ⟨rfl, rfl, rfl⟩ := hcs
    have hnm : n ≤ m := by rw [hmm]; split <;> omega
    obtain ⟨b, o, s⟩ := a
    have hspot : 0 < n → s = none := by
      intro h0
      obtain ⟨cs, h1, _⟩ := hx 0 (by omega)
      obtain ⟨_, hlen, hcell⟩ := World.cells?_some h1
      rw [hk] at hlen hcell
      have h2 := hcell 0 hk0
      rw [List.getElem?_eq_getElem (by omega)] at h2
      simpa [Addr.add] using World.cell?_spot h2
    obtain ⟨f, hf⟩ := choose_lt (α := α) (n := n) (p := fun i v => ∃ b' o' cs d, some (⟨b, o, s⟩ : Addr) = some ⟨b', o', none⟩ ∧ cs.length = k ∧ (∀ j u, cs[j]? = some u → w.cell? ⟨b', o' + i * k + j, none⟩ = some u) ∧ Q cs d v ∧ Rows.uptoBulk d ≤ Rows.uptoBulk x.1) (by
      intro i hi
      obtain ⟨cs, h1, h2⟩ := hx i (by omega)
      obtain ⟨v, hv⟩ := hQ _ _ _ h2
      obtain ⟨_, hlen, hcell⟩ := World.cells?_some h1
      rw [hk] at hlen hcell
      have hs := hspot (by omega)
      subst hs
      refine ⟨v, b, o, cs, D i, rfl, hlen, fun j u hj => ?_, hv, ?_⟩
      · have hj' : j < k := by have := (List.getElem?_eq_some_iff.1 hj).1; omega
        have := hcell j hj'
        rw [Addr.add_lit, Addr.add_lit, hj] at this
        exact this
      · rw [hxx]
        exact bulk_elem (List.mem_map.2 ⟨i, List.mem_range.2 hi, rfl⟩))
    exact ⟨hl, hm, f, hf⟩
end

/-- A []Step, no Step's bytes more than 1,048,576. -/
def StepsU (w : World) (A : Option Addr) (n c : Nat) : Prop := n ≤ c ∧ c ≤ maxLen ∧ ∃ f : Nat → StepV, ∀ i, i < n → StepIs w A i (f i) ∧ (f i).bn ≤ 1048576

section
variable {H : Type} {enc : TypeId × Value → H} {W : World} {A : Option Addr} {n c : Nat} {d : DataW H} {p : List MemPlace}
theorem open_bys_d {fuel : Nat} {cs : List Value} {y : DataW H × List MemPlace} {base : Nat} {spare : Nat → Bool} {held : Bool} (h : DataW.trod enc Try.prog W base spare held fuel 34 cs = some y) :
    ∃ (B : Option Addr) (bn bc : Nat) (bs : List Int), cs = [.slice B bn bc] ∧ bs.length = bn ∧ bn ≤ bc ∧ bc ≤ maxLen ∧ Rd W B (bs.map (Value.int .u8)) ∧ (∀ z ∈ bs, (Lit.int .u8 z).wf = true) ∧ bn ≤ Rows.uptoBulk y.1 := by
  have hy := h
  obtain ⟨B, bn, bc, bs, e, f1, f2, f3, f4, f5⟩ := open_bys h
  refine ⟨B, bn, bc, bs, e, f1, f2, f3, f4, f5, ?_⟩
  subst e
  rcases open_slice Try.underlying34 hy with ⟨hcs, _⟩ | ⟨a, l, cp, m, fu, D, Pl, hcs, _, _, _, _, hxx, _⟩
  · simp at hcs
    omega
  · simp at hcs
    rw [hxx]
    have := bulk_slice ((List.range l).map D) ((List.range (m - l)).map fun j => D (l + j))
    rw [List.length_map, List.length_range] at this
    obtain ⟨_, rfl, _⟩ := hcs
    exact this

theorem open_StepsU (h : DataW.Trod enc Try.prog W 0 (fun _ => true) true 30 (.slice A n c) d p) (hsz : Rows.uptoBulk d ≤ 1048576) : StepsU W A n c := by
  obtain ⟨fuel, hf⟩ := h
  obtain ⟨h1, h2, f, h3⟩ := open_elems_d (α := StepV) Try.underlying30 cells_step (by omega) (show DataW.trod _ _ _ _ _ _ _ _ [.slice A n c] = _ by simpa [Value.cells] using hf)
    (fun cs d v => cs = [.int .i64 v.what, .int .i64 v.n, .slice v.B v.bn v.bc] ∧ StepOk W v ∧ v.bn ≤ Rows.uptoBulk d) (by
      intro m cs y hy
      obtain ⟨y0, y1, y2, k, hyy, hl, g0, g1, g2⟩ := trod_struct3 Try.underlying38 hy
      rw [cells_step] at hl
      obtain ⟨c0, c1, c2, rfl⟩ := len3 hl
      simp only [cells_int, cells_bytes, List.drop_succ_cons, List.drop_zero, List.take_succ_cons, List.take_zero] at g0 g1 g2
      obtain ⟨z0, e0, _, f0⟩ := DataW.trod_int Try.underlying3 g0
      obtain ⟨z1, e1, _, f1⟩ := DataW.trod_int Try.underlying3 g1
      obtain ⟨B, bn, bc, bs, e2, f2, f3, f4, f5, f6, f7⟩ := open_bys_d g2
      simp only [List.cons.injEq, and_true] at e0 e1 e2
      subst e0 e1 e2
      refine ⟨⟨z0, z1, B, bn, bc, bs⟩, rfl, ⟨f0, f1, f2, f3, f4, f5, f6⟩, ?_⟩
      rw [hyy]
      exact Nat.le_trans f7 (bulk_agg (by simp)))
  refine ⟨h1, h2, f, fun i hi => ?_⟩
  obtain ⟨b, o, cs, d', e, _, hc, ⟨rfl, hq, hb⟩, hd⟩ := h3 i hi
  exact ⟨⟨b, o, e, by simpa using hc 0 _ rfl, hc 1 _ rfl, hc 2 _ rfl, hq⟩, Nat.le_trans hb (Nat.le_trans hd hsz)⟩
end
end Go.Proofs.Ytngfimjbgopgjaa
