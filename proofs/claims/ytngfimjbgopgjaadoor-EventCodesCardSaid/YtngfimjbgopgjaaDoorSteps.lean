/- A slice of chapter 1's Steps that came in, in the walk's words. -/
import Derived.Test.YtngfimjbgopgjaaDoorArgs
import Derived.Deep.Strs
import Derived.Lib.SmallJoins
namespace Go.Proofs.YtngfimjbgopgjaaDoor
open Go.ChangeShapes Go.WideShapes Go.ChangeAt Go.RowKit Go.Deep
set_option linter.unusedVariables false

section
variable {H : Type} {enc : TypeId × Value → H} {P : Program} {w : World} {base : Nat} {spare : Nat → Bool} {held : Bool}
/-- A slice opened, element by element: each element's cells lie at their place, and Q tells them. -/
theorem open_elems {α : Type} [Inhabited α] {t e : TypeId} {fuel k : Nat} {A : Option Addr} {n c : Nat} {x : DataW H × List MemPlace} (ht : P.underlying t = some (.slice e)) (hk : P.cellsOf e = k) (hk0 : 0 < k)
    (h : DataW.trod enc P w base spare held fuel t [.slice A n c] = some x) (Q : List Value → α → Prop)
    (hQ : ∀ m cs y, DataW.trod enc P w base spare held m e cs = some y → ∃ a, Q cs a) :
    n ≤ c ∧ c ≤ maxLen ∧ ∃ f : Nat → α, ∀ i, i < n → ∃ b o cs, A = some ⟨b, o, none⟩ ∧ cs.length = k ∧ (∀ j u, cs[j]? = some u → w.cell? ⟨b, o + i * k + j, none⟩ = some u) ∧ Q cs (f i) := by
  rcases open_slice ht h with ⟨hcs, _⟩ | ⟨a, l, cp, m, fu, D, Pl, hcs, _, hl, hm, hmm, _, hx⟩
  · simp at hcs
    obtain ⟨rfl, rfl, rfl⟩ := hcs
    exact ⟨Nat.le_refl _, Nat.zero_le _, fun _ => default, fun i hi => absurd hi (by omega)⟩
  · simp at hcs
    obtain ⟨rfl, rfl, rfl⟩ := hcs
    have hnm : n ≤ m := by rw [hmm]; split <;> omega
    obtain ⟨b, o, s⟩ := a
    have hspot : 0 < n → s = none := by
      intro h0
      obtain ⟨cs, h1, _⟩ := hx 0 (by omega)
      obtain ⟨_, hlen, hcell⟩ := World.cells?_some h1
      rw [hk] at hlen hcell
      have h2 := hcell 0 hk0
      rw [List.getElem?_eq_getElem (by omega)] at h2
      simpa [Addr.add] using World.cell?_spot h2
    obtain ⟨f, hf⟩ := choose_lt (α := α) (n := n) (p := fun i v => ∃ b' o' cs, some (⟨b, o, s⟩ : Addr) = some ⟨b', o', none⟩ ∧ cs.length = k ∧ (∀ j u, cs[j]? = some u → w.cell? ⟨b', o' + i * k + j, none⟩ = some u) ∧ Q cs v) (by
      intro i hi
      obtain ⟨cs, h1, h2⟩ := hx i (by omega)
      obtain ⟨v, hv⟩ := hQ _ _ _ h2
      obtain ⟨_, hlen, hcell⟩ := World.cells?_some h1
      rw [hk] at hlen hcell
      have hs := hspot (by omega)
      subst hs
      refine ⟨v, b, o, cs, rfl, hlen, fun j u hj => ?_, hv⟩
      have hj' : j < k := by have := (List.getElem?_eq_some_iff.1 hj).1; omega
      have := hcell j hj'
      rw [Addr.add_lit, Addr.add_lit, hj] at this
      exact this)
    exact ⟨hl, hm, f, hf⟩
end

theorem len3 {α : Type} {l : List α} (h : l.length = 3) : ∃ a b c, l = [a, b, c] := by
  match l, h with
  | [a, b, c], _ => exact ⟨a, b, c, rfl⟩

/-- One Step: its numbers, its bytes and where they lie. -/
structure StepV where
  what : Int
  n : Int
  B : Option Addr
  bn : Nat
  bc : Nat
  bs : List Int
instance : Inhabited StepV := ⟨⟨0, 0, none, 0, 0, []⟩⟩

/-- What is known of a Step's fields. -/
structure StepOk (w : World) (v : StepV) : Prop where
  what : (Lit.int .i64 v.what).wf = true
  n : (Lit.int .i64 v.n).wf = true
  len : v.bs.length = v.bn
  cap : v.bn ≤ v.bc
  most : v.bc ≤ maxLen
  rd : Rd w v.B (v.bs.map (Value.int .u8))
  byt : ∀ z ∈ v.bs, (Lit.int .u8 z).wf = true
theorem StepOk.keep {w w' : World} {v : StepV} (h : StepOk w v) (hc : Chg (fun _ => False) w w') : StepOk w' v := ⟨h.what, h.n, h.len, h.cap, h.most, h.rd.keep hc (fun _ _ h => h), h.byt⟩

/-- Step i of the slice is v. -/
def StepIs (w : World) (A : Option Addr) (i : Nat) (v : StepV) : Prop :=
  ∃ b o, A = some ⟨b, o, none⟩ ∧ w.cell? ⟨b, o + i * 3, none⟩ = some (.int .i64 v.what) ∧ w.cell? ⟨b, o + i * 3 + 1, none⟩ = some (.int .i64 v.n) ∧ w.cell? ⟨b, o + i * 3 + 2, none⟩ = some (.slice v.B v.bn v.bc) ∧ StepOk w v
theorem StepIs.keep {w w' : World} {A : Option Addr} {i : Nat} {v : StepV} (h : StepIs w A i v) (hc : Chg (fun _ => False) w w') : StepIs w' A i v := by
  obtain ⟨b, o, e, h0, h1, h2, h3⟩ := h
  exact ⟨b, o, e, hc.cell_some h0 (fun h => h), hc.cell_some h1 (fun h => h), hc.cell_some h2 (fun h => h), h3.keep hc⟩

theorem StepIs.out {w : World} {b o i : Nat} {v : StepV} (h : StepIs w (some ⟨b, o, none⟩) i v) :
    w.cell? ⟨b, o + i * 3, none⟩ = some (.int .i64 v.what) ∧ w.cell? ⟨b, o + i * 3 + 1, none⟩ = some (.int .i64 v.n) ∧ w.cell? ⟨b, o + i * 3 + 2, none⟩ = some (.slice v.B v.bn v.bc) ∧ StepOk w v := by
  obtain ⟨b', o', e, h⟩ := h
  cases e
  exact h

/-- A []Step. -/
def Steps (w : World) (A : Option Addr) (n c : Nat) : Prop := n ≤ c ∧ c ≤ maxLen ∧ ∃ f : Nat → StepV, ∀ i, i < n → StepIs w A i (f i)

theorem cells_bytes : Tryd.prog.cellsOf 22 = 1 := by kernel_rfl

section
variable {H : Type} {enc : TypeId × Value → H} {W : World} {A : Option Addr} {n c : Nat} {d : DataW H} {p : List MemPlace}
theorem open_bys {fuel : Nat} {cs : List Value} {y : DataW H × List MemPlace} {base : Nat} {spare : Nat → Bool} {held : Bool} (h : DataW.trod enc Tryd.prog W base spare held fuel 22 cs = some y) :
    ∃ (B : Option Addr) (bn bc : Nat) (bs : List Int), cs = [.slice B bn bc] ∧ bs.length = bn ∧ bn ≤ bc ∧ bc ≤ maxLen ∧ Rd W B (bs.map (Value.int .u8)) ∧ ∀ z ∈ bs, (Lit.int .u8 z).wf = true := by
  rcases open_ints Tryd.underlying22 Tryd.underlying5 cells_u8 h with ⟨hcs, _⟩ | ⟨a, l, cp, zs, hcs, _, hl, hm, hz, hx, hcell, hwz⟩
  · exact ⟨none, 0, 0, [], hcs, rfl, Nat.le_refl _, Nat.zero_le _, .inl rfl, fun z hz => by cases hz⟩
  · have hzl : l ≤ zs.length := by rw [hz]; split <;> omega
    refine ⟨some a, l, cp, zs.take l, hcs, by rw [List.length_take]; omega, hl, hm, ?_, fun z hz => hwz z (List.mem_of_mem_take hz)⟩
    refine Rd.of_add fun j u hj => ?_
    rw [List.getElem?_map, List.getElem?_take] at hj
    by_cases hjn : j < l
    · rw [if_pos hjn, List.getElem?_eq_getElem (by omega)] at hj
      rw [hcell j (by omega), List.getD_eq_getElem?_getD, List.getElem?_eq_getElem (by omega)]
      simpa using hj
    · rw [if_neg hjn] at hj; cases hj

end
end Go.Proofs.YtngfimjbgopgjaaDoor
