/- A slice of chapter 22's Steps that came in, in the walk's words; each one's bytes within the form's reach. -/
import Derived.Test.YtngfimjbgopgjaaDoorSteps
import Derived.SizedLaws
namespace Go.Proofs.YtngfimjbgopgjaaDoor
open Go.ChangeShapes Go.WideShapes Go.ChangeAt Go.RowKit Go.Deep
set_option linter.unusedVariables false

section
variable {H : Type} {enc : TypeId × Value → H} {P : Program} {w : World} {base : Nat} {spare : Nat → Bool} {held : Bool}
theorem weights_all_mem {e : TypeId} {d : DataW H} {l : List (DataW H)} (h : d ∈ l) {n : Nat} (hn : n ∈ d.weights P e) : n ∈ DataW.weightsAll P e l := by
  induction l with
  | nil => cases h
  | cons x r ih =>
    simp only [DataW.weightsAll, List.mem_append]
    rcases List.mem_cons.1 h with rfl | h
    · exact .inl hn
    · exact .inr (ih h)
/-- As 'open_elems', the element's datum told, too: it is one of the slice's. -/
theorem open_elems_w {α : Type} [Inhabited α] {t e : TypeId} {fuel k : Nat} {A : Option Addr} {n c : Nat} {x : DataW H × List MemPlace} (ht : P.underlying t = some (.slice e)) (hk : P.cellsOf e = k) (hk0 : 0 < k)
    (h : DataW.trod enc P w base spare held fuel t [.slice A n c] = some x) (Q : List Value → DataW H → α → Prop)
    (hQ : ∀ m cs y, DataW.trod enc P w base spare held m e cs = some y → ∃ a, Q cs y.1 a) :
    n ≤ c ∧ c ≤ maxLen ∧ ∃ f : Nat → α, ∀ i, i < n → ∃ b o cs d, A = some ⟨b, o, none⟩ ∧ cs.length = k ∧ (∀ j u, cs[j]? = some u → w.cell? ⟨b, o + i * k + j, none⟩ = some u) ∧ Q cs d (f i) ∧ (∀ m ∈ d.weights P e, m ∈ x.1.weights P t) := by
  rcases open_slice ht h with ⟨hcs, _⟩ | ⟨a, l, cp, m, fu, D, Pl, hcs, _, hl, hm, hmm, hxx, hx⟩
  · simp at hcs
    obtain ⟨rfl, rfl, rfl⟩ := hcs
    exact ⟨Nat.le_refl _, Nat.zero_le _, fun _ => default, fun i hi => absurd hi (by omega)⟩
  · simp at hcs
    obtain ⟨rfl, rfl, rfl⟩ := hcs
    have hnm : n ≤ m := by rw [hmm]; split <;> omega
    obtain ⟨b, o, s⟩ := a
    have hspot : 0 < n → s = none := by
      intro h0
      obtain ⟨cs, h1, _⟩ := hx 0 (by omega)
      obtain ⟨_, hlen, hcell⟩ := World.cells?_some h1
      rw [hk] at hlen hcell
      have h2 := hcell 0 hk0
      rw [List.getElem?_eq_getElem (by omega)] at h2
      simpa [Addr.add] using World.cell?_spot h2
    obtain ⟨f, hf⟩ := choose_lt (α := α) (n := n) (p := fun i v => ∃ b' o' cs d, some (⟨b, o, s⟩ : Addr) = some ⟨b', o', none⟩ ∧ cs.length = k ∧ (∀ j u, cs[j]? = some u → w.cell? ⟨b', o' + i * k + j, none⟩ = some u) ∧ Q cs d v ∧ (∀ m ∈ d.weights P e, m ∈ x.1.weights P t)) (by
      intro i hi
      obtain ⟨cs, h1, h2⟩ := hx i (by omega)
      obtain ⟨v, hv⟩ := hQ _ _ _ h2
      obtain ⟨_, hlen, hcell⟩ := World.cells?_some h1
      rw [hk] at hlen hcell
      have hs := hspot (by omega)
      subst hs
      refine ⟨v, b, o, cs, D i, rfl, hlen, fun j u hj => ?_, hv, ?_⟩
      · have hj' : j < k := by have := (List.getElem?_eq_some_iff.1 hj).1; omega
        have := hcell j hj'
        rw [Addr.add_lit, Addr.add_lit, hj] at this
        exact this
      · rw [hxx]
        intro z hz
        simp only [DataW.weights, ht]
        exact List.mem_cons_of_mem _ (List.mem_append_left _ (weights_all_mem (List.mem_map.2 ⟨i, List.mem_range.2 hi, rfl⟩) hz)))
    exact ⟨hl, hm, f, hf⟩

theorem trod_struct5 {t : TypeId} {f0 f1 f2 f3 f4 : Field} {fuel : Nat} {cs : List Value} {x : DataW H × List MemPlace} (ht : P.underlying t = some (.struct #[f0, f1, f2, f3, f4])) (h : DataW.trod enc P w base spare held fuel t cs = some x) :
    ∃ y0 y1 y2 y3 y4 n, x.1 = .agg [y0.1, y1.1, y2.1, y3.1, y4.1] ∧ cs.length = P.cellsOf t ∧ DataW.trod enc P w base spare held n f0.type ((cs.drop f0.offset).take (P.cellsOf f0.type)) = some y0 ∧
      DataW.trod enc P w base spare held n f1.type ((cs.drop f1.offset).take (P.cellsOf f1.type)) = some y1 ∧ DataW.trod enc P w base spare held n f2.type ((cs.drop f2.offset).take (P.cellsOf f2.type)) = some y2 ∧
      DataW.trod enc P w base spare held n f3.type ((cs.drop f3.offset).take (P.cellsOf f3.type)) = some y3 ∧ DataW.trod enc P w base spare held n f4.type ((cs.drop f4.offset).take (P.cellsOf f4.type)) = some y4 := by
  obtain ⟨xs, n, _, rfl, hl, hlen, hf⟩ := DataW.trod_struct ht h
  match xs, hlen with
  | [y0, y1, y2, y3, y4], _ => exact ⟨y0, y1, y2, y3, y4, n, by simp, hl, by simpa using hf 0 f0 rfl, by simpa using hf 1 f1 rfl, by simpa using hf 2 f2 rfl, by simpa using hf 3 f3 rfl, by simpa using hf 4 f4 rfl⟩
end
theorem len5 {α : Type} {l : List α} (h : l.length = 5) : ∃ a b c d e, l = [a, b, c, d, e] := by
  match l, h with
  | [a, b, c, d, e], _ => exact ⟨a, b, c, d, e, rfl⟩

/-- One Step of chapter 22: its numbers, its bytes and where they lie. -/
structure NStepV where
  what : Int
  k : Int
  f : Int
  t : Int
  B : Option Addr
  bn : Nat
  bc : Nat
  bs : List Int
instance : Inhabited NStepV := ⟨⟨0, 0, 0, 0, none, 0, 0, []⟩⟩
structure NStepOk (w : World) (v : NStepV) : Prop where
  len : v.bs.length = v.bn
  cap : v.bn ≤ v.bc
  most : v.bn ≤ 140737488351232
  rd : Rd w v.B (v.bs.map (Value.int .u8))
theorem NStepOk.keep {w w' : World} {v : NStepV} (h : NStepOk w v) (hc : Chg (fun _ => False) w w') : NStepOk w' v := ⟨h.len, h.cap, h.most, h.rd.keep hc (fun _ _ h => h)⟩
/-- Step i of the slice is v. -/
def NStepIs (w : World) (A : Option Addr) (i : Nat) (v : NStepV) : Prop :=
  ∃ b o, A = some ⟨b, o, none⟩ ∧ w.cell? ⟨b, o + i * 5, none⟩ = some (.int .i64 v.what) ∧ w.cell? ⟨b, o + i * 5 + 1, none⟩ = some (.int .i64 v.k) ∧ w.cell? ⟨b, o + i * 5 + 2, none⟩ = some (.int .i64 v.f) ∧ w.cell? ⟨b, o + i * 5 + 3, none⟩ = some (.int .i64 v.t) ∧ w.cell? ⟨b, o + i * 5 + 4, none⟩ = some (.slice v.B v.bn v.bc) ∧ NStepOk w v
theorem NStepIs.keep {w w' : World} {A : Option Addr} {i : Nat} {v : NStepV} (h : NStepIs w A i v) (hc : Chg (fun _ => False) w w') : NStepIs w' A i v := by
  obtain ⟨b, o, e, h0, h1, h2, h3, h4, h5⟩ := h
  exact ⟨b, o, e, hc.cell_some h0 (fun h => h), hc.cell_some h1 (fun h => h), hc.cell_some h2 (fun h => h), hc.cell_some h3 (fun h => h), hc.cell_some h4 (fun h => h), h5.keep hc⟩
/-- A []Step of chapter 22. -/
def NSteps (w : World) (A : Option Addr) (n c : Nat) : Prop := n ≤ c ∧ c ≤ maxLen ∧ ∃ f : Nat → NStepV, ∀ i, i < n → NStepIs w A i (f i)
section
variable {H : Type} {enc : TypeId × Value → H} {W : World} {A : Option Addr} {n c : Nat} {d : DataW H} {p : List MemPlace}
theorem open_bys_w {fuel : Nat} {cs : List Value} {y : DataW H × List MemPlace} {base : Nat} {spare : Nat → Bool} {held : Bool} (h : DataW.trod enc Tryd.prog W base spare held fuel 22 cs = some y) (hw : ∀ m ∈ y.1.weights Tryd.prog 22, m ≤ reachBytes) :
    ∃ (B : Option Addr) (bn bc : Nat) (bs : List Int), cs = [.slice B bn bc] ∧ bs.length = bn ∧ bn ≤ bc ∧ bn ≤ 140737488351232 ∧ Rd W B (bs.map (Value.int .u8)) := by
  have hy := h
  obtain ⟨B, bn, bc, bs, e, f1, f2, f3, f4, f5⟩ := open_bys h
  refine ⟨B, bn, bc, bs, e, f1, f2, ?_, f4⟩
  subst e
  rcases open_slice Tryd.underlying22 hy with ⟨hcs, _⟩ | ⟨a, l, cp, m, fu, D, Pl, hcs, _, _, _, _, hxx, _⟩
  · simp at hcs
    omega
  · simp at hcs
    obtain ⟨_, rfl, _⟩ := hcs
    rw [hxx] at hw
    have := hw _ (by simp only [DataW.weights, Tryd.underlying22]; exact List.mem_cons_self)
    rw [bytes_u8] at this
    simp only [List.length_map, List.length_range, reachBytes] at this
    omega

end
end Go.Proofs.YtngfimjbgopgjaaDoor
