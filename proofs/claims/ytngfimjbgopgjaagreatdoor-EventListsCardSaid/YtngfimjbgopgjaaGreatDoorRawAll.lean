/- Steps, NSteps, Raw, in one text (merge.py). -/
import Derived.Test.YtngfimjbgopgjaaGreatDoorMemArgs
import Derived.Deep.Strs
import Derived.Lib.SmallJoins
import Derived.SizedLaws
import Derived.Test.YtngfimjbgopgjaaGreatDoorHSetAll
/- A slice of chapter 1's Steps that came in, in the walk's words. -/
namespace Go.Proofs.YtngfimjbgopgjaaGreatDoor
open Go.ChangeShapes Go.WideShapes Go.ChangeAt Go.RowKit Go.Deep
set_option linter.unusedVariables false

section
variable {H : Type} {enc : TypeId × Value → H} {P : Program} {w : World} {base : Nat} {spare : Nat → Bool} {held : Bool}
/-- A slice opened, element by element: each element's cells lie at their place, and Q tells them. -/
theorem open_elems {α : Type} [Inhabited α] {t e : TypeId} {fuel k : Nat} {A : Option Addr} {n c : Nat} {x : DataW H × List MemPlace} (ht : P.underlying t = some (.slice e)) (hk : P.cellsOf e = k) (hk0 : 0 < k)
    (h : DataW.trod enc P w base spare held fuel t [.slice A n c] = some x) (Q : List Value → α → Prop)
    (hQ : ∀ m cs y, DataW.trod enc P w base spare held m e cs = some y → ∃ a, Q cs a) :
    n ≤ c ∧ c ≤ maxLen ∧ ∃ f : Nat → α, ∀ i, i < n → ∃ b o cs, A = some ⟨b, o, none⟩ ∧ cs.length = k ∧ (∀ j u, cs[j]? = some u → w.cell? ⟨b, o + i * k + j, none⟩ = some u) ∧ Q cs (f i) := by
  rcases open_slice ht h with ⟨hcs, _⟩ | ⟨a, l, cp, m, fu, D, Pl, hcs, _, hl, hm, hmm, _, hx⟩
  · simp at hcs
    obtain ⟨rfl, rfl, rfl⟩ := hcs
    exact ⟨Nat.le_refl _, Nat.zero_le _, fun _ => default, fun i hi => absurd hi (by omega)⟩
  · simp at hcs
    obtain ⟨rfl, rfl, rfl⟩ := hcs
    have hnm : n ≤ m := by rw [hmm]; split <;> omega
    obtain ⟨b, o, s⟩ := a
    have hspot : 0 < n → s = none := by
      intro h0
      obtain ⟨cs, h1, _⟩ := hx 0 (by omega)
      obtain ⟨_, hlen, hcell⟩ := World.cells?_some h1
      rw [hk] at hlen hcell
      have h2 := hcell 0 hk0
      rw [List.getElem?_eq_getElem (by omega)] at h2
      simpa [Addr.add] using World.cell?_spot h2
    obtain ⟨f, hf⟩ := choose_lt (α := α) (n := n) (p := fun i v => ∃ b' o' cs, some (⟨b, o, s⟩ : Addr) = some ⟨b', o', none⟩ ∧ cs.length = k ∧ (∀ j u, cs[j]? = some u → w.cell? ⟨b', o' + i * k + j, none⟩ = some u) ∧ Q cs v) (by
      intro i hi
      obtain ⟨cs, h1, h2⟩ := hx i (by omega)
      obtain ⟨v, hv⟩ := hQ _ _ _ h2
      obtain ⟨_, hlen, hcell⟩ := World.cells?_some h1
      rw [hk] at hlen hcell
      have hs := hspot (by omega)
      subst hs
      refine ⟨v, b, o, cs, rfl, hlen, fun j u hj => ?_, hv⟩
      have hj' : j < k := by have := (List.getElem?_eq_some_iff.1 hj).1; omega
      have := hcell j hj'
      rw [Addr.add_lit, Addr.add_lit, hj] at this
      exact this)
    exact ⟨hl, hm, f, hf⟩
end

theorem len3 {α : Type} {l : List α} (h : l.length = 3) : ∃ a b c, l = [a, b, c] := by
  match l, h with
  | [a, b, c], _ => exact ⟨a, b, c, rfl⟩

/-- One Step: its numbers, its bytes and where they lie. -/
structure StepV where
  what : Int
  n : Int
  B : Option Addr
  bn : Nat
  bc : Nat
  bs : List Int
instance : Inhabited StepV := ⟨⟨0, 0, none, 0, 0, []⟩⟩

/-- What is known of a Step's fields. -/
structure StepOk (w : World) (v : StepV) : Prop where
  what : (Lit.int .i64 v.what).wf = true
  n : (Lit.int .i64 v.n).wf = true
  len : v.bs.length = v.bn
  cap : v.bn ≤ v.bc
  most : v.bc ≤ maxLen
  rd : Rd w v.B (v.bs.map (Value.int .u8))
  byt : ∀ z ∈ v.bs, (Lit.int .u8 z).wf = true
theorem StepOk.keep {w w' : World} {v : StepV} (h : StepOk w v) (hc : Chg (fun _ => False) w w') : StepOk w' v := ⟨h.what, h.n, h.len, h.cap, h.most, h.rd.keep hc (fun _ _ h => h), h.byt⟩

/-- Step i of the slice is v. -/
def StepIs (w : World) (A : Option Addr) (i : Nat) (v : StepV) : Prop :=
  ∃ b o, A = some ⟨b, o, none⟩ ∧ w.cell? ⟨b, o + i * 3, none⟩ = some (.int .i64 v.what) ∧ w.cell? ⟨b, o + i * 3 + 1, none⟩ = some (.int .i64 v.n) ∧ w.cell? ⟨b, o + i * 3 + 2, none⟩ = some (.slice v.B v.bn v.bc) ∧ StepOk w v
theorem StepIs.keep {w w' : World} {A : Option Addr} {i : Nat} {v : StepV} (h : StepIs w A i v) (hc : Chg (fun _ => False) w w') : StepIs w' A i v := by
  obtain ⟨b, o, e, h0, h1, h2, h3⟩ := h
  exact ⟨b, o, e, hc.cell_some h0 (fun h => h), hc.cell_some h1 (fun h => h), hc.cell_some h2 (fun h => h), h3.keep hc⟩

theorem StepIs.out {w : World} {b o i : Nat} {v : StepV} (h : StepIs w (some ⟨b, o, none⟩) i v) :
    w.cell? ⟨b, o + i * 3, none⟩ = some (.int .i64 v.what) ∧ w.cell? ⟨b, o + i * 3 + 1, none⟩ = some (.int .i64 v.n) ∧ w.cell? ⟨b, o + i * 3 + 2, none⟩ = some (.slice v.B v.bn v.bc) ∧ StepOk w v := by
  obtain ⟨b', o', e, h⟩ := h
  cases e
  exact h

/-- A []Step. -/
def Steps (w : World) (A : Option Addr) (n c : Nat) : Prop := n ≤ c ∧ c ≤ maxLen ∧ ∃ f : Nat → StepV, ∀ i, i < n → StepIs w A i (f i)

theorem cells_bytes : Tryz.prog.cellsOf 24 = 1 := by kernel_rfl

section
variable {H : Type} {enc : TypeId × Value → H} {W : World} {A : Option Addr} {n c : Nat} {d : DataW H} {p : List MemPlace}
theorem open_bys {fuel : Nat} {cs : List Value} {y : DataW H × List MemPlace} {base : Nat} {spare : Nat → Bool} {held : Bool} (h : DataW.trod enc Tryz.prog W base spare held fuel 24 cs = some y) :
    ∃ (B : Option Addr) (bn bc : Nat) (bs : List Int), cs = [.slice B bn bc] ∧ bs.length = bn ∧ bn ≤ bc ∧ bc ≤ maxLen ∧ Rd W B (bs.map (Value.int .u8)) ∧ ∀ z ∈ bs, (Lit.int .u8 z).wf = true := by
  rcases open_ints Tryz.underlying24 Tryz.underlying5 cells_u8 h with ⟨hcs, _⟩ | ⟨a, l, cp, zs, hcs, _, hl, hm, hz, hx, hcell, hwz⟩
  · exact ⟨none, 0, 0, [], hcs, rfl, Nat.le_refl _, Nat.zero_le _, .inl rfl, fun z hz => by cases hz⟩
  · have hzl : l ≤ zs.length := by rw [hz]; split <;> omega
    refine ⟨some a, l, cp, zs.take l, hcs, by rw [List.length_take]; omega, hl, hm, ?_, fun z hz => hwz z (List.mem_of_mem_take hz)⟩
    refine Rd.of_add fun j u hj => ?_
    rw [List.getElem?_map, List.getElem?_take] at hj
    by_cases hjn : j < l
    · rw [if_pos hjn, List.getElem?_eq_getElem (by omega)] at hj
      rw [hcell j (by omega), List.getD_eq_getElem?_getD, List.getElem?_eq_getElem (by omega)]
      simpa using hj
    · rw [if_neg hjn] at hj; cases hj

end
end Go.Proofs.YtngfimjbgopgjaaGreatDoor

/- A slice of chapter 22's Steps that came in, in the walk's words; each one's bytes within the form's reach. -/
namespace Go.Proofs.YtngfimjbgopgjaaGreatDoor
open Go.ChangeShapes Go.WideShapes Go.ChangeAt Go.RowKit Go.Deep
set_option linter.unusedVariables false

section
variable {H : Type} {enc : TypeId × Value → H} {P : Program} {w : World} {base : Nat} {spare : Nat → Bool} {held : Bool}
theorem weights_all_mem {e : TypeId} {d : DataW H} {l : List (DataW H)} (h : d ∈ l) {n : Nat} (hn : n ∈ d.weights P e) : n ∈ DataW.weightsAll P e l := by
  induction l with
  | nil => cases h
  | cons x r ih =>
    simp only [DataW.weightsAll, List.mem_append]
    rcases List.mem_cons.1 h with rfl | h
    · exact .inl hn
    · exact .inr (ih h)
/-- As 'open_elems', the element's datum told, too: it is one of the slice's. -/
theorem open_elems_w {α : Type} [Inhabited α] {t e : TypeId} {fuel k : Nat} {A : Option Addr} {n c : Nat} {x : DataW H × List MemPlace} (ht : P.underlying t = some (.slice e)) (hk : P.cellsOf e = k) (hk0 : 0 < k)
    (h : DataW.trod enc P w base spare held fuel t [.slice A n c] = some x) (Q : List Value → DataW H → α → Prop)
    (hQ : ∀ m cs y, DataW.trod enc P w base spare held m e cs = some y → ∃ a, Q cs y.1 a) :
    n ≤ c ∧ c ≤ maxLen ∧ ∃ f : Nat → α, ∀ i, i < n → ∃ b o cs d, A = some ⟨b, o, none⟩ ∧ cs.length = k ∧ (∀ j u, cs[j]? = some u → w.cell? ⟨b, o + i * k + j, none⟩ = some u) ∧ Q cs d (f i) ∧ (∀ m ∈ d.weights P e, m ∈ x.1.weights P t) := by
  rcases open_slice ht h with ⟨hcs, _⟩ | ⟨a, l, cp, m, fu, D, Pl, hcs, _, hl, hm, hmm, hxx, hx⟩
  · simp at hcs
    obtain ⟨rfl, rfl, rfl⟩ := hcs
    exact ⟨Nat.le_refl _, Nat.zero_le _, fun _ => default, fun i hi => absurd hi (by omega)⟩
  · simp at hcs
    obtain ⟨rfl, rfl, rfl⟩ := hcs
    have hnm : n ≤ m := by rw [hmm]; split <;> omega
    obtain ⟨b, o, s⟩ := a
    have hspot : 0 < n → s = none := by
      intro h0
      obtain ⟨cs, h1, _⟩ := hx 0 (by omega)
      obtain ⟨_, hlen, hcell⟩ := World.cells?_some h1
      rw [hk] at hlen hcell
      have h2 := hcell 0 hk0
      rw [List.getElem?_eq_getElem (by omega)] at h2
      simpa [Addr.add] using World.cell?_spot h2
    obtain ⟨f, hf⟩ := choose_lt (α := α) (n := n) (p := fun i v => ∃ b' o' cs d, some (⟨b, o, s⟩ : Addr) = some ⟨b', o', none⟩ ∧ cs.length = k ∧ (∀ j u, cs[j]? = some u → w.cell? ⟨b', o' + i * k + j, none⟩ = some u) ∧ Q cs d v ∧ (∀ m ∈ d.weights P e, m ∈ x.1.weights P t)) (by
      intro i hi
      obtain ⟨cs, h1, h2⟩ := hx i (by omega)
      obtain ⟨v, hv⟩ := hQ _ _ _ h2
      obtain ⟨_, hlen, hcell⟩ := World.cells?_some h1
      rw [hk] at hlen hcell
      have hs := hspot (by omega)
      subst hs
      refine ⟨v, b, o, cs, D i, rfl, hlen, fun j u hj => ?_, hv, ?_⟩
      · have hj' : j < k := by have := (List.getElem?_eq_some_iff.1 hj).1; omega
        have := hcell j hj'
        rw [Addr.add_lit, Addr.add_lit, hj] at this
        exact this
      · rw [hxx]
        intro z hz
        simp only [DataW.weights, ht]
        exact List.mem_cons_of_mem _ (List.mem_append_left _ (weights_all_mem (List.mem_map.2 ⟨i, List.mem_range.2 hi, rfl⟩) hz)))
    exact ⟨hl, hm, f, hf⟩

theorem trod_struct5 {t : TypeId} {f0 f1 f2 f3 f4 : Field} {fuel : Nat} {cs : List Value} {x : DataW H × List MemPlace} (ht : P.underlying t = some (.struct #[f0, f1, f2, f3, f4])) (h : DataW.trod enc P w base spare held fuel t cs = some x) :
    ∃ y0 y1 y2 y3 y4 n, x.1 = .agg [y0.1, y1.1, y2.1, y3.1, y4.1] ∧ cs.length = P.cellsOf t ∧ DataW.trod enc P w base spare held n f0.type ((cs.drop f0.offset).take (P.cellsOf f0.type)) = some y0 ∧
      DataW.trod enc P w base spare held n f1.type ((cs.drop f1.offset).take (P.cellsOf f1.type)) = some y1 ∧ DataW.trod enc P w base spare held n f2.type ((cs.drop f2.offset).take (P.cellsOf f2.type)) = some y2 ∧
      DataW.trod enc P w base spare held n f3.type ((cs.drop f3.offset).take (P.cellsOf f3.type)) = some y3 ∧ DataW.trod enc P w base spare held n f4.type ((cs.drop f4.offset).take (P.cellsOf f4.type)) = some y4 := by
  obtain ⟨xs, n, _, rfl, hl, hlen, hf⟩ := DataW.trod_struct ht h
  match xs, hlen with
  | [y0, y1, y2, y3, y4], _ => exact ⟨y0, y1, y2, y3, y4, n, by simp, hl, by simpa using hf 0 f0 rfl, by simpa using hf 1 f1 rfl, by simpa using hf 2 f2 rfl, by simpa using hf 3 f3 rfl, by simpa using hf 4 f4 rfl⟩
end
theorem len5 {α : Type} {l : List α} (h : l.length = 5) : ∃ a b c d e, l = [a, b, c, d, e] := by
  match l, h with
  | [a, b, c, d, e], _ => exact ⟨a, b, c, d, e, rfl⟩

/-- One Step of chapter 22: its numbers, its bytes and where they lie. -/
structure NStepV where
  what : Int
  k : Int
  f : Int
  t : Int
  B : Option Addr
  bn : Nat
  bc : Nat
  bs : List Int
instance : Inhabited NStepV := ⟨⟨0, 0, 0, 0, none, 0, 0, []⟩⟩
structure NStepOk (w : World) (v : NStepV) : Prop where
  len : v.bs.length = v.bn
  cap : v.bn ≤ v.bc
  most : v.bn ≤ 140737488351232
  rd : Rd w v.B (v.bs.map (Value.int .u8))
theorem NStepOk.keep {w w' : World} {v : NStepV} (h : NStepOk w v) (hc : Chg (fun _ => False) w w') : NStepOk w' v := ⟨h.len, h.cap, h.most, h.rd.keep hc (fun _ _ h => h)⟩
/-- Step i of the slice is v. -/
def NStepIs (w : World) (A : Option Addr) (i : Nat) (v : NStepV) : Prop :=
  ∃ b o, A = some ⟨b, o, none⟩ ∧ w.cell? ⟨b, o + i * 5, none⟩ = some (.int .i64 v.what) ∧ w.cell? ⟨b, o + i * 5 + 1, none⟩ = some (.int .i64 v.k) ∧ w.cell? ⟨b, o + i * 5 + 2, none⟩ = some (.int .i64 v.f) ∧ w.cell? ⟨b, o + i * 5 + 3, none⟩ = some (.int .i64 v.t) ∧ w.cell? ⟨b, o + i * 5 + 4, none⟩ = some (.slice v.B v.bn v.bc) ∧ NStepOk w v
theorem NStepIs.keep {w w' : World} {A : Option Addr} {i : Nat} {v : NStepV} (h : NStepIs w A i v) (hc : Chg (fun _ => False) w w') : NStepIs w' A i v := by
  obtain ⟨b, o, e, h0, h1, h2, h3, h4, h5⟩ := h
  exact ⟨b, o, e, hc.cell_some h0 (fun h => h), hc.cell_some h1 (fun h => h), hc.cell_some h2 (fun h => h), hc.cell_some h3 (fun h => h), hc.cell_some h4 (fun h => h), h5.keep hc⟩
/-- A []Step of chapter 22. -/
def NSteps (w : World) (A : Option Addr) (n c : Nat) : Prop := n ≤ c ∧ c ≤ maxLen ∧ ∃ f : Nat → NStepV, ∀ i, i < n → NStepIs w A i (f i)
section
variable {H : Type} {enc : TypeId × Value → H} {W : World} {A : Option Addr} {n c : Nat} {d : DataW H} {p : List MemPlace}
theorem open_bys_w {fuel : Nat} {cs : List Value} {y : DataW H × List MemPlace} {base : Nat} {spare : Nat → Bool} {held : Bool} (h : DataW.trod enc Tryz.prog W base spare held fuel 24 cs = some y) (hw : ∀ m ∈ y.1.weights Tryz.prog 24, m ≤ reachBytes) :
    ∃ (B : Option Addr) (bn bc : Nat) (bs : List Int), cs = [.slice B bn bc] ∧ bs.length = bn ∧ bn ≤ bc ∧ bn ≤ 140737488351232 ∧ Rd W B (bs.map (Value.int .u8)) := by
  have hy := h
  obtain ⟨B, bn, bc, bs, e, f1, f2, f3, f4, f5⟩ := open_bys h
  refine ⟨B, bn, bc, bs, e, f1, f2, ?_, f4⟩
  subst e
  rcases open_slice Tryz.underlying24 hy with ⟨hcs, _⟩ | ⟨a, l, cp, m, fu, D, Pl, hcs, _, _, _, _, hxx, _⟩
  · simp at hcs
    omega
  · simp at hcs
    obtain ⟨_, rfl, _⟩ := hcs
    rw [hxx] at hw
    have := hw _ (by simp only [DataW.weights, Tryz.underlying24]; exact List.mem_cons_self)
    rw [bytes_u8] at this
    simp only [List.length_map, List.length_range, reachBytes] at this
    omega

end
end Go.Proofs.YtngfimjbgopgjaaGreatDoor

/- Raw and []RawDef as arguments, in the walk's words. -/
namespace Go.Proofs.YtngfimjbgopgjaaGreatDoor
open Go.ChangeShapes Go.WideShapes Go.ChangeAt Go.RowKit Go.Deep
set_option linter.unusedVariables false

instance : Inhabited RawD := ⟨⟨0, 0, none, 0, 0, []⟩⟩
theorem cells_rawdef : Tryz.prog.cellsOf 83 = 3 := by kernel_rfl
theorem cells_rawdefs : Tryz.prog.cellsOf 23 = 1 := by kernel_rfl
theorem cells_is : Tryz.prog.cellsOf 81 = 1 := by kernel_rfl
theorem cells_raw : Tryz.prog.cellsOf 26 = 11 := by kernel_rfl
theorem len11 {α : Type} {l : List α} (h : l.length = 11) : ∃ a0 a1 a2 a3 a4 a5 a6 a7 a8 a9 a10, l = [a0, a1, a2, a3, a4, a5, a6, a7, a8, a9, a10] := by
  match l, h with
  | [a0, a1, a2, a3, a4, a5, a6, a7, a8, a9, a10], _ => exact ⟨a0, a1, a2, a3, a4, a5, a6, a7, a8, a9, a10, rfl⟩

/-- A Raw that came in: its numbers, its bytes, its raw Defs. -/
structure RawV where
  id : Int
  ver : Int
  tm : Int
  ty : Int
  node : Int
  m : Int
  name : Int
  defs : Int
  how : Int
  A : Option Addr
  n : Nat
  c : Nat
  bs : List Int
  L : Option Addr
  ln : Nat
  lc : Nat
def RawV.val (v : RawV) : Value := .agg #[.int .i64 v.id, .int .i64 v.ver, .int .i64 v.tm, .int .i64 v.ty, .int .i64 v.node, .int .i64 v.m, .int .i64 v.name, .int .i64 v.defs, .int .i64 v.how, .slice v.A v.n v.c, .slice v.L v.ln v.lc]
structure RawOk (w : World) (v : RawV) : Prop where
  len : v.bs.length = v.n
  cap : v.n ≤ v.c
  most : v.n ≤ 140737488351232
  rd : Rd w v.A (v.bs.map (Value.int .u8))
  byt : ∀ z ∈ v.bs, 0 ≤ z ∧ z ≤ 255
  ds : RawDs w v.L v.ln v.lc
theorem RawDs.still {w w' : World} {A : Option Addr} {n c : Nat} (h : RawDs w A n c) (hc : Chg (fun _ => False) w w') : RawDs w' A n c := by
  obtain ⟨h1, h2, f, h3⟩ := h
  exact ⟨h1, h2, f, fun i hi => (h3 i hi).still hc⟩
theorem RawOk.still {w w' : World} {v : RawV} (h : RawOk w v) (hc : Chg (fun _ => False) w w') : RawOk w' v :=
  ⟨h.len, h.cap, h.most, h.rd.keep hc (fun _ _ h => h), h.byt, h.ds.still hc⟩

section
variable {H : Type} {enc : TypeId × Value → H} {W : World}
theorem open_is_w {fuel : Nat} {cs : List Value} {y : DataW H × List MemPlace} (h : DataW.trod enc Tryz.prog W 0 (fun _ => true) true fuel 81 cs = some y) (hw : ∀ m ∈ y.1.weights Tryz.prog 81, m ≤ reachBytes) :
    ∃ (B : Option Addr) (bn bc : Nat) (bs : List Int), cs = [.slice B bn bc] ∧ bs.length = bn ∧ bn ≤ 17592186044416 ∧ Rd W B (bs.map (Value.int .i64)) := by
  obtain ⟨B, bn, bc, rfl⟩ := Joins.slice_form Tryz.underlying81 h
  obtain ⟨zs, h1, h2, h3, h4, h5, h6⟩ := open_IntsOf (most := 17592186044416) Tryz.underlying81 Tryz.underlying3 cells_int bytes_int (fun m hm => by simp only [reachBytes] at hm; omega) h (fun elems rest e => hw _ (by rw [e]; simp [DataW.weights, Tryz.underlying81]))
  exact ⟨B, bn, bc, zs, rfl, h1, h4, h5⟩
theorem open_by_w {fuel : Nat} {cs : List Value} {y : DataW H × List MemPlace} (h : DataW.trod enc Tryz.prog W 0 (fun _ => true) true fuel 24 cs = some y) (hw : ∀ m ∈ y.1.weights Tryz.prog 24, m ≤ reachBytes) :
    ∃ (B : Option Addr) (bn bc : Nat) (bs : List Int), cs = [.slice B bn bc] ∧ bs.length = bn ∧ bn ≤ bc ∧ bn ≤ 140737488351232 ∧ Rd W B (bs.map (Value.int .u8)) ∧ ∀ z ∈ bs, 0 ≤ z ∧ z ≤ 255 := by
  obtain ⟨B, bn, bc, rfl⟩ := Joins.slice_form Tryz.underlying24 h
  obtain ⟨zs, h1, h2, h3, h4, h5, h6⟩ := open_IntsOf (most := 140737488351232) Tryz.underlying24 Tryz.underlying5 cells_u8 bytes_u8 (fun m hm => by simp only [reachBytes] at hm; omega) h (fun elems rest e => hw _ (by rw [e]; simp [DataW.weights, Tryz.underlying24]))
  exact ⟨B, bn, bc, zs, rfl, h1, h2, h4, h5, fun z hz => by have h := h6 z hz; simp [Lit.wf, IntKind.min, IntKind.max, IntKind.signed, IntKind.bits] at h; omega⟩
theorem open_RawDs {fuel : Nat} {cs : List Value} {y : DataW H × List MemPlace} (h : DataW.trod enc Tryz.prog W 0 (fun _ => true) true fuel 23 cs = some y) (hw : ∀ m ∈ y.1.weights Tryz.prog 23, m ≤ reachBytes) :
    ∃ (A : Option Addr) (n c : Nat), cs = [.slice A n c] ∧ RawDs W A n c := by
  obtain ⟨A, n, c, rfl⟩ := Joins.slice_form Tryz.underlying23 h
  refine ⟨A, n, c, rfl, ?_⟩
  obtain ⟨h1, h2, f, h3⟩ := open_elems_w (α := RawD) Tryz.underlying23 cells_rawdef (by omega) h
    (fun cs d v => (∀ m ∈ d.weights Tryz.prog 83, m ≤ reachBytes) → cs = [.int .i64 v.tr, .int .i64 v.le, .slice v.A v.n v.c] ∧ Rd W v.A (v.ns.map (Value.int .i64)) ∧ v.ns.length = v.n ∧ v.n ≤ 17592186044416) (by
      intro m cs y hy
      obtain ⟨y0, y1, y2, k, hyy, hl, g0, g1, g2⟩ := trod_struct3 Tryz.underlying83 hy
      rw [cells_rawdef] at hl
      obtain ⟨c0, c1, c2, rfl⟩ := len3 hl
      simp only [cells_int, cells_is, List.drop_succ_cons, List.drop_zero, List.take_succ_cons, List.take_zero] at g0 g1 g2
      obtain ⟨z0, e0, _, f0⟩ := DataW.trod_int Tryz.underlying3 g0
      obtain ⟨z1, e1, _, f1⟩ := DataW.trod_int Tryz.underlying3 g1
      simp only [List.cons.injEq, and_true] at e0 e1
      subst e0 e1
      obtain ⟨B, bn, bc, e2⟩ := Joins.slice_form Tryz.underlying81 g2
      simp only [List.cons.injEq, and_true] at e2
      subst e2
      by_cases hwt : ∀ m ∈ y.1.weights Tryz.prog 83, m ≤ reachBytes
      · obtain ⟨B', bn', bc', bs, e, j1, j2, j3⟩ := open_is_w g2 (fun q hq => hwt q (by
          rw [hyy]
          simp only [DataW.weights, Tryz.underlying83]
          simp [DataW.weightsEach, hq]))
        simp only [List.cons.injEq, Value.slice.injEq, and_true] at e
        obtain ⟨rfl, rfl, rfl⟩ := e
        exact ⟨⟨z0, z1, B, bn, bc, bs⟩, fun _ => ⟨rfl, j3, j1, j2⟩⟩
      · exact ⟨default, fun h => absurd h hwt⟩)
  refine ⟨h1, h2, f, fun i hi => ?_⟩
  obtain ⟨b, o, cs, d', e, _, hc, hq, hd⟩ := h3 i hi
  obtain ⟨rfl, k1, k2, k3⟩ := hq (fun m hm => hw m (hd m hm))
  exact ⟨⟨b, o, e, by simpa using hc 0 _ rfl, hc 1 _ rfl, hc 2 _ rfl⟩, k1, k2, k3⟩
set_option maxRecDepth 20000 in
theorem open_Raw {r : Reach} {b0 : Nat} {v : Value} {d : DataW H} {p : List MemPlace} (hv : Value.okWide Tryz.prog W r b0 26 v) (h : DataW.Trod enc Tryz.prog W 0 (fun _ => true) true 26 v d p) (hw : ∀ m ∈ d.weights Tryz.prog 26, m ≤ reachBytes) :
    ∃ x : RawV, v = x.val ∧ RawOk W x := by
  obtain ⟨cs, rfl, hsz⟩ := okWide_struct Tryz.underlying26 hv
  obtain ⟨l, rfl⟩ : ∃ l : List Value, cs = l.toArray := ⟨cs.toList, by simp⟩
  rw [cells_raw] at hsz
  obtain ⟨c0, c1, c2, c3, c4, c5, c6, c7, c8, c9, c10, rfl⟩ := len11 (by simpa using hsz)
  obtain ⟨fuel, hf⟩ := h
  obtain ⟨xs, n, _, hx, hl, hlen, hg⟩ := DataW.trod_struct Tryz.underlying26 hf
  obtain ⟨y0, y1, y2, y3, y4, y5, y6, y7, y8, y9, y10, rfl⟩ := len11 (l := xs) hlen
  simp only [Prod.mk.injEq] at hx
  obtain ⟨hd, _⟩ := hx
  have g0 := hg 0 _ rfl
  have g1 := hg 1 _ rfl
  have g2 := hg 2 _ rfl
  have g3 := hg 3 _ rfl
  have g4 := hg 4 _ rfl
  have g5 := hg 5 _ rfl
  have g6 := hg 6 _ rfl
  have g7 := hg 7 _ rfl
  have g8 := hg 8 _ rfl
  have g9 := hg 9 _ rfl
  have g10 := hg 10 _ rfl
  simp [Value.cells, cells_int, cells_bytes, cells_rawdefs] at g0 g1 g2 g3 g4 g5 g6 g7 g8 g9 g10
  obtain ⟨z0, e0, _, _⟩ := DataW.trod_int Tryz.underlying3 g0
  obtain ⟨z1, e1, _, _⟩ := DataW.trod_int Tryz.underlying3 g1
  obtain ⟨z2, e2, _, _⟩ := DataW.trod_int Tryz.underlying3 g2
  obtain ⟨z3, e3, _, _⟩ := DataW.trod_int Tryz.underlying3 g3
  obtain ⟨z4, e4, _, _⟩ := DataW.trod_int Tryz.underlying3 g4
  obtain ⟨z5, e5, _, _⟩ := DataW.trod_int Tryz.underlying3 g5
  obtain ⟨z6, e6, _, _⟩ := DataW.trod_int Tryz.underlying3 g6
  obtain ⟨z7, e7, _, _⟩ := DataW.trod_int Tryz.underlying3 g7
  obtain ⟨z8, e8, _, _⟩ := DataW.trod_int Tryz.underlying3 g8
  simp only [List.cons.injEq, and_true] at e0 e1 e2 e3 e4 e5 e6 e7 e8
  subst e0 e1 e2 e3 e4 e5 e6 e7 e8
  subst hd
  have hwe : ∀ (j : Nat) (t : TypeId) (d' : DataW H), ([3, 3, 3, 3, 3, 3, 3, 3, 3, 24, 23] : List TypeId)[j]? = some t → ([y0.1, y1.1, y2.1, y3.1, y4.1, y5.1, y6.1, y7.1, y8.1, y9.1, y10.1] : List (DataW H))[j]? = some d' → ∀ m ∈ d'.weights Tryz.prog t, m ≤ reachBytes := fun j t d' ht hd' m hm => hw m (by
    simp only [DataW.weights, Tryz.underlying26]
    exact DataW.weights_mem_each (j := j) (t := t) (d := d') ht hd' m hm)
  obtain ⟨B, bn, bc, bs, e9, k1, k2, k3, k4, k5⟩ := open_by_w g9 (hwe 9 _ _ rfl rfl)
  obtain ⟨L, ln, lc, e10, k6⟩ := open_RawDs g10 (hwe 10 _ _ rfl rfl)
  simp only [List.cons.injEq, and_true] at e9 e10
  subst e9 e10
  exact ⟨⟨z0, z1, z2, z3, z4, z5, z6, z7, z8, B, bn, bc, bs, L, ln, lc⟩, rfl, ⟨k1, k2, k3, k4, k5, k6⟩⟩
end
end Go.Proofs.YtngfimjbgopgjaaGreatDoor
