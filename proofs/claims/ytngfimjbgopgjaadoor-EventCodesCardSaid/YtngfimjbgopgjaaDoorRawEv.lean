/- An event as an argument, in the walk's words. -/
import Derived.Test.YtngfimjbgopgjaaDoorEvCon
namespace Go.Proofs.YtngfimjbgopgjaaDoor
open Go.ChangeShapes Go.WideShapes Go.ChangeAt Go.RowKit Go.Deep
set_option linter.unusedVariables false

theorem cells_event : Tryd.prog.cellsOf 28 = 9 := by kernel_rfl
theorem cells_def : Tryd.prog.cellsOf 49 = 3 := by kernel_rfl
theorem cells_defs : Tryd.prog.cellsOf 26 = 1 := by kernel_rfl
theorem cells_str : Tryd.prog.cellsOf 9 = 1 := by kernel_rfl
theorem len9 {α : Type} {l : List α} (h : l.length = 9) : ∃ a0 a1 a2 a3 a4 a5 a6 a7 a8, l = [a0, a1, a2, a3, a4, a5, a6, a7, a8] := by
  match l, h with
  | [a0, a1, a2, a3, a4, a5, a6, a7, a8], _ => exact ⟨a0, a1, a2, a3, a4, a5, a6, a7, a8, rfl⟩
/-- What is known of any event that came in, or was made. -/
structure EvBig (w : World) (f : EvF) : Prop where
  nm : f.nm.size ≤ 140737488351232
  bn : f.bs.length ≤ 140737488351232
  byt : ∀ z ∈ f.bs, 0 ≤ z ∧ z ≤ 255
  rd : Rd w f.A (f.bs.map (Value.int .u8))
  ds : RdDf w f.D f.dl
  dn : f.dl.length ≤ 17592186044416
  ns : ∀ d ∈ f.dl, d.ns.length ≤ 17592186044416
theorem EvOk.big {w : World} {g : Nat} {f : EvF} (h : EvOk w g f) : EvBig w f :=
  ⟨by have := h.nm; omega, by have := h.bn; omega, h.byt, h.rd, h.ds, by have := h.dn; omega, fun d hd => by have := h.ns d hd; omega⟩
theorem EvBig.still {w w' : World} {f : EvF} (h : EvBig w f) (hc : Chg (fun _ => False) w w') : EvBig w' f := ⟨h.nm, h.bn, h.byt, h.rd.keep hc (fun _ _ h => h), h.ds.still hc, h.dn, h.ns⟩
/-- Stores into a block that came later turn nothing of it. -/
theorem EvBig.past {S : Nat → Prop} {w w1 w' : World} {f : EvF} (h : EvBig w f) (h1 : Chg (fun _ => False) w w1) (hc : Chg S w1 w') (hS : ∀ x, S x → w.heap.size ≤ x) : EvBig w' f := by
  have hc2 : Chg (fun _ => False) w w' := h1.trans hc (fun x hx => .inr (hS x hx))
  exact h.still hc2
/-- A []Def that came in. -/
theorem rd_defs {w : World} {b o n : Nat} {f : Nat → Df} (h : ∀ i, i < n → w.cell? ⟨b, o + i * 3, none⟩ = some (.slice (f i).A (f i).ns.length (f i).c) ∧ w.cell? ⟨b, o + i * 3 + 1, none⟩ = some (.int .i64 (f i).tr) ∧ w.cell? ⟨b, o + i * 3 + 2, none⟩ = some (.int .i64 (f i).le)) :
    Rd w (some ⟨b, o, none⟩) (dfC ((List.range n).map f)) := by
  refine .inr ⟨b, o, rfl, fun j u hj => ?_⟩
  have hl : j < n * 3 := by
    have := (List.getElem?_eq_some_iff.1 hj).1
    rwa [dfC_len, List.length_map, List.length_range] at this
  obtain ⟨i, r, hr, rfl⟩ : ∃ i r, r < 3 ∧ j = i * 3 + r := ⟨j / 3, j % 3, Nat.mod_lt _ (by omega), by omega⟩
  have hi : i < n := by omega
  obtain ⟨h0, h1, h2⟩ := h i hi
  have hil : i < ((List.range n).map f).length := by simpa using hi
  obtain ⟨p0, p1, p2⟩ := dfC_get ((List.range n).map f) i hil
  simp only [List.getElem_map, List.getElem_range] at p0 p1 p2
  rcases (by omega : r = 0 ∨ r = 1 ∨ r = 2) with rfl | rfl | rfl
  · rw [Nat.add_zero] at hj ⊢
    rw [p0] at hj
    rw [← hj]; exact h0
  · rw [p1] at hj
    rw [← Nat.add_assoc, ← hj]; exact h1
  · rw [p2] at hj
    rw [← Nat.add_assoc, ← hj]; exact h2

section
variable {H : Type} {enc : TypeId × Value → H} {W : World}
instance : Inhabited Df := ⟨⟨none, 0, [], 0, 0⟩⟩
theorem open_Defs {fuel : Nat} {cs : List Value} {y : DataW H × List MemPlace} (h : DataW.trod enc Tryd.prog W 0 (fun _ => true) true fuel 26 cs = some y) (hw : ∀ m ∈ y.1.weights Tryd.prog 26, m ≤ reachBytes) :
    ∃ (D : Option Addr) (dc : Nat) (dl : List Df), cs = [.slice D dl.length dc] ∧ RdDf W D dl ∧ dl.length ≤ 17592186044416 ∧ ∀ d ∈ dl, d.ns.length ≤ 17592186044416 := by
  obtain ⟨A, n, c, rfl⟩ := Joins.slice_form Tryd.underlying26 h
  have hn : n ≤ 17592186044416 := by
    rcases open_slice Tryd.underlying26 h with ⟨hcs, _⟩ | ⟨a, l, cp, m, fu, D, Pl, hcs, _, _, _, _, hxx, _⟩
    · simp at hcs; omega
    · simp at hcs
      obtain ⟨_, rfl, _⟩ := hcs
      have h2 := hw _ (by rw [hxx]; simp only [DataW.weights, Tryd.underlying26]; exact List.mem_cons_self)
      rw [show Tryd.prog.bytesOf 49 = 40 by kernel_rfl] at h2
      simp only [List.length_map, List.length_range, reachBytes] at h2
      omega
  obtain ⟨h1, h2, f, h3⟩ := open_elems_w (α := Df) Tryd.underlying26 cells_def (by omega) h
    (fun cs d v => (∀ m ∈ d.weights Tryd.prog 49, m ≤ reachBytes) → cs = [.slice v.A v.ns.length v.c, .int .i64 v.tr, .int .i64 v.le] ∧ Rd W v.A (v.ns.map (Value.int .i64)) ∧ v.ns.length ≤ 17592186044416) (by
      intro m cs y hy
      obtain ⟨y0, y1, y2, k, hyy, hl, g0, g1, g2⟩ := trod_struct3 Tryd.underlying49 hy
      rw [cells_def] at hl
      obtain ⟨c0, c1, c2, rfl⟩ := len3 hl
      simp only [cells_int, cells_is, List.drop_succ_cons, List.drop_zero, List.take_succ_cons, List.take_zero] at g0 g1 g2
      obtain ⟨z1, e1, _, f1⟩ := DataW.trod_int Tryd.underlying3 g1
      obtain ⟨z2, e2, _, f2⟩ := DataW.trod_int Tryd.underlying3 g2
      simp only [List.cons.injEq, and_true] at e1 e2
      subst e1 e2
      obtain ⟨B, bn, bc, e0⟩ := Joins.slice_form Tryd.underlying29 g0
      simp only [List.cons.injEq, and_true] at e0
      subst e0
      by_cases hwt : ∀ m ∈ y.1.weights Tryd.prog 49, m ≤ reachBytes
      · obtain ⟨B', bn', bc', bs, e, j1, j2, j3⟩ := open_is_w g0 (fun q hq => hwt q (by
          rw [hyy]
          simp only [DataW.weights, Tryd.underlying49]
          simp [DataW.weightsEach, hq]))
        simp only [List.cons.injEq, Value.slice.injEq, and_true] at e
        obtain ⟨rfl, rfl, rfl⟩ := e
        exact ⟨⟨B, bc, bs, z1, z2⟩, fun _ => ⟨by rw [j1], j3, by simp only; omega⟩⟩
      · exact ⟨default, fun h => absurd h hwt⟩)
  have hel : ∀ i, i < n → ∃ b o, A = some ⟨b, o, none⟩ ∧ (W.cell? ⟨b, o + i * 3, none⟩ = some (.slice (f i).A (f i).ns.length (f i).c) ∧ W.cell? ⟨b, o + i * 3 + 1, none⟩ = some (.int .i64 (f i).tr) ∧ W.cell? ⟨b, o + i * 3 + 2, none⟩ = some (.int .i64 (f i).le)) ∧ Rd W (f i).A ((f i).ns.map (Value.int .i64)) ∧ (f i).ns.length ≤ 17592186044416 := fun i hi => by
    obtain ⟨b, o, cs, d', e, _, hc, hq, hd⟩ := h3 i hi
    obtain ⟨rfl, k1, k2⟩ := hq (fun m hm => hw m (hd m hm))
    exact ⟨b, o, e, ⟨by simpa using hc 0 _ rfl, hc 1 _ rfl, hc 2 _ rfl⟩, k1, k2⟩
  have hmem : ∀ d ∈ (List.range n).map f, ∃ i, i < n ∧ f i = d := fun d hd => by
    obtain ⟨i, hi, e⟩ := List.mem_map.1 hd
    exact ⟨i, List.mem_range.1 hi, e⟩
  refine ⟨A, c, (List.range n).map f, by simp, ⟨?_, fun d hd => ?_⟩, by simpa using hn, fun d hd => ?_⟩
  · rcases Nat.eq_zero_or_pos n with h0 | h0
    · subst h0; exact Rd.nil _ _
    · obtain ⟨b, o, rfl, _, _⟩ := hel 0 h0
      exact rd_defs fun i hi => by
        obtain ⟨b', o', e, h4, _⟩ := hel i hi
        cases e
        exact h4
  · obtain ⟨i, hi, rfl⟩ := hmem d hd
    obtain ⟨_, _, _, _, h5, _⟩ := hel i hi
    exact h5
  · obtain ⟨i, hi, rfl⟩ := hmem d hd
    obtain ⟨_, _, _, _, _, h6⟩ := hel i hi
    exact h6
set_option maxRecDepth 20000 in
theorem open_Event {r : Reach} {b0 : Nat} {v : Value} {d : DataW H} {p : List MemPlace} (hv : Value.okWide Tryd.prog W r b0 28 v) (h : DataW.Trod enc Tryd.prog W 0 (fun _ => true) true 28 v d p) (hw : ∀ m ∈ d.weights Tryd.prog 28, m ≤ reachBytes) :
    ∃ x : EvF, v = x.val ∧ EvBig W x := by
  obtain ⟨cs, rfl, hsz⟩ := okWide_struct Tryd.underlying28 hv
  obtain ⟨l, rfl⟩ : ∃ l : List Value, cs = l.toArray := ⟨cs.toList, by simp⟩
  rw [cells_event] at hsz
  obtain ⟨c0, c1, c2, c3, c4, c5, c6, c7, c8, rfl⟩ := len9 (by simpa using hsz)
  obtain ⟨fuel, hf⟩ := h
  obtain ⟨xs, n, _, hx, hl, hlen, hg⟩ := DataW.trod_struct Tryd.underlying28 hf
  obtain ⟨y0, y1, y2, y3, y4, y5, y6, y7, y8, rfl⟩ := len9 (l := xs) hlen
  simp only [Prod.mk.injEq] at hx
  obtain ⟨hd, _⟩ := hx
  have g0 := hg 0 _ rfl
  have g1 := hg 1 _ rfl
  have g2 := hg 2 _ rfl
  have g3 := hg 3 _ rfl
  have g4 := hg 4 _ rfl
  have g5 := hg 5 _ rfl
  have g6 := hg 6 _ rfl
  have g7 := hg 7 _ rfl
  have g8 := hg 8 _ rfl
  simp [Value.cells, cells_int, cells_bytes, cells_defs, cells_str] at g0 g1 g2 g3 g4 g5 g6 g7 g8
  obtain ⟨z0, e0, _, _⟩ := DataW.trod_int Tryd.underlying3 g0
  obtain ⟨z1, e1, _, _⟩ := DataW.trod_int Tryd.underlying3 g1
  obtain ⟨z2, e2, _, _⟩ := DataW.trod_int Tryd.underlying3 g2
  obtain ⟨z3, e3, _, _⟩ := DataW.trod_int Tryd.underlying3 g3
  obtain ⟨z4, e4, _, _⟩ := DataW.trod_int Tryd.underlying3 g4
  obtain ⟨z5, e5, _, _⟩ := DataW.trod_int Tryd.underlying3 g5
  obtain ⟨s6, e6, e6', _⟩ := DataW.trod_string Tryd.underlying9 g6
  simp only [List.cons.injEq, and_true] at e0 e1 e2 e3 e4 e5 e6
  subst e0 e1 e2 e3 e4 e5 e6
  subst hd
  have hwe : ∀ (j : Nat) (t : TypeId) (d' : DataW H), ([3, 3, 3, 3, 3, 3, 9, 22, 26] : List TypeId)[j]? = some t → ([y0.1, y1.1, y2.1, y3.1, y4.1, y5.1, y6.1, y7.1, y8.1] : List (DataW H))[j]? = some d' → ∀ m ∈ d'.weights Tryd.prog t, m ≤ reachBytes := fun j t d' ht hd' m hm => hw m (by
    simp only [DataW.weights, Tryd.underlying28]
    exact DataW.weights_mem_each (j := j) (t := t) (d := d') ht hd' m hm)
  have hs6 : s6.size ≤ 140737488351232 := by
    have h2 := hwe 6 _ _ rfl rfl s6.data.toList.length (by rw [e6']; simp [DataW.weights])
    exact str_reach h2
  obtain ⟨B, bn, bc, bs, e7, k1, k2, k3, k4, k5⟩ := open_by_w g7 (hwe 7 _ _ rfl rfl)
  obtain ⟨D, dc, dl, e8, k6, k7, k8⟩ := open_Defs g8 (hwe 8 _ _ rfl rfl)
  simp only [List.cons.injEq, and_true] at e7 e8
  subst e7 e8 k1
  exact ⟨⟨z0, z1, z2, z3, z4, z5, s6, B, bc, bs, D, dc, dl⟩, rfl, ⟨hs6, k3, k5, k4, k6, k7, k8⟩⟩
end
end Go.Proofs.YtngfimjbgopgjaaDoor
