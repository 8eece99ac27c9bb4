/- Raw and []RawDef as arguments, in the walk's words. -/
import Derived.Test.YtngfimjbgopgjaaDoorHRaw
import Derived.Test.YtngfimjbgopgjaaDoorNSteps
namespace Go.Proofs.YtngfimjbgopgjaaDoor
open Go.ChangeShapes Go.WideShapes Go.ChangeAt Go.RowKit Go.Deep
set_option linter.unusedVariables false

instance : Inhabited RawD := ⟨⟨0, 0, none, 0, 0, []⟩⟩
theorem cells_rawdef : Tryd.prog.cellsOf 93 = 3 := by kernel_rfl
theorem cells_rawdefs : Tryd.prog.cellsOf 23 = 1 := by kernel_rfl
theorem cells_is : Tryd.prog.cellsOf 29 = 1 := by kernel_rfl
theorem cells_raw : Tryd.prog.cellsOf 25 = 11 := by kernel_rfl
theorem len11 {α : Type} {l : List α} (h : l.length = 11) : ∃ a0 a1 a2 a3 a4 a5 a6 a7 a8 a9 a10, l = [a0, a1, a2, a3, a4, a5, a6, a7, a8, a9, a10] := by
  match l, h with
  | [a0, a1, a2, a3, a4, a5, a6, a7, a8, a9, a10], _ => exact ⟨a0, a1, a2, a3, a4, a5, a6, a7, a8, a9, a10, rfl⟩

/-- A Raw that came in: its numbers, its bytes, its raw Defs. -/
structure RawV where
  id : Int
  ver : Int
  tm : Int
  ty : Int
  node : Int
  m : Int
  name : Int
  defs : Int
  how : Int
  A : Option Addr
  n : Nat
  c : Nat
  bs : List Int
  L : Option Addr
  ln : Nat
  lc : Nat
def RawV.val (v : RawV) : Value := .agg #[.int .i64 v.id, .int .i64 v.ver, .int .i64 v.tm, .int .i64 v.ty, .int .i64 v.node, .int .i64 v.m, .int .i64 v.name, .int .i64 v.defs, .int .i64 v.how, .slice v.A v.n v.c, .slice v.L v.ln v.lc]
structure RawOk (w : World) (v : RawV) : Prop where
  len : v.bs.length = v.n
  cap : v.n ≤ v.c
  most : v.n ≤ 140737488351232
  rd : Rd w v.A (v.bs.map (Value.int .u8))
  byt : ∀ z ∈ v.bs, 0 ≤ z ∧ z ≤ 255
  ds : RawDs w v.L v.ln v.lc
theorem RawDs.still {w w' : World} {A : Option Addr} {n c : Nat} (h : RawDs w A n c) (hc : Chg (fun _ => False) w w') : RawDs w' A n c := by
  obtain ⟨h1, h2, f, h3⟩ := h
  exact ⟨h1, h2, f, fun i hi => (h3 i hi).still hc⟩
theorem RawOk.still {w w' : World} {v : RawV} (h : RawOk w v) (hc : Chg (fun _ => False) w w') : RawOk w' v :=
  ⟨h.len, h.cap, h.most, h.rd.keep hc (fun _ _ h => h), h.byt, h.ds.still hc⟩

section
variable {H : Type} {enc : TypeId × Value → H} {W : World}
theorem open_is_w {fuel : Nat} {cs : List Value} {y : DataW H × List MemPlace} (h : DataW.trod enc Tryd.prog W 0 (fun _ => true) true fuel 29 cs = some y) (hw : ∀ m ∈ y.1.weights Tryd.prog 29, m ≤ reachBytes) :
    ∃ (B : Option Addr) (bn bc : Nat) (bs : List Int), cs = [.slice B bn bc] ∧ bs.length = bn ∧ bn ≤ 17592186044416 ∧ Rd W B (bs.map (Value.int .i64)) := by
  obtain ⟨B, bn, bc, rfl⟩ := Joins.slice_form Tryd.underlying29 h
  obtain ⟨zs, h1, h2, h3, h4, h5, h6⟩ := open_IntsOf (most := 17592186044416) Tryd.underlying29 Tryd.underlying3 cells_int bytes_int (fun m hm => by simp only [reachBytes] at hm; omega) h (fun elems rest e => hw _ (by rw [e]; simp [DataW.weights, Tryd.underlying29]))
  exact ⟨B, bn, bc, zs, rfl, h1, h4, h5⟩
theorem open_by_w {fuel : Nat} {cs : List Value} {y : DataW H × List MemPlace} (h : DataW.trod enc Tryd.prog W 0 (fun _ => true) true fuel 22 cs = some y) (hw : ∀ m ∈ y.1.weights Tryd.prog 22, m ≤ reachBytes) :
    ∃ (B : Option Addr) (bn bc : Nat) (bs : List Int), cs = [.slice B bn bc] ∧ bs.length = bn ∧ bn ≤ bc ∧ bn ≤ 140737488351232 ∧ Rd W B (bs.map (Value.int .u8)) ∧ ∀ z ∈ bs, 0 ≤ z ∧ z ≤ 255 := by
  obtain ⟨B, bn, bc, rfl⟩ := Joins.slice_form Tryd.underlying22 h
  obtain ⟨zs, h1, h2, h3, h4, h5, h6⟩ := open_IntsOf (most := 140737488351232) Tryd.underlying22 Tryd.underlying5 cells_u8 bytes_u8 (fun m hm => by simp only [reachBytes] at hm; omega) h (fun elems rest e => hw _ (by rw [e]; simp [DataW.weights, Tryd.underlying22]))
  exact ⟨B, bn, bc, zs, rfl, h1, h2, h4, h5, fun z hz => by have h := h6 z hz; simp [Lit.wf, IntKind.min, IntKind.max, IntKind.signed, IntKind.bits] at h; omega⟩
theorem open_RawDs {fuel : Nat} {cs : List Value} {y : DataW H × List MemPlace} (h : DataW.trod enc Tryd.prog W 0 (fun _ => true) true fuel 23 cs = some y) (hw : ∀ m ∈ y.1.weights Tryd.prog 23, m ≤ reachBytes) :
    ∃ (A : Option Addr) (n c : Nat), cs = [.slice A n c] ∧ RawDs W A n c := by
  obtain ⟨A, n, c, rfl⟩ := Joins.slice_form Tryd.underlying23 h
  refine ⟨A, n, c, rfl, ?_⟩
  obtain ⟨h1, h2, f, h3⟩ := open_elems_w (α := RawD) Tryd.underlying23 cells_rawdef (by omega) h
    (fun cs d v => (∀ m ∈ d.weights Tryd.prog 93, m ≤ reachBytes) → cs = [.int .i64 v.tr, .int .i64 v.le, .slice v.A v.n v.c] ∧ Rd W v.A (v.ns.map (Value.int .i64)) ∧ v.ns.length = v.n ∧ v.n ≤ 17592186044416) (by
      intro m cs y hy
      obtain ⟨y0, y1, y2, k, hyy, hl, g0, g1, g2⟩ := trod_struct3 Tryd.underlying93 hy
      rw [cells_rawdef] at hl
      obtain ⟨c0, c1, c2, rfl⟩ := len3 hl
      simp only [cells_int, cells_is, List.drop_succ_cons, List.drop_zero, List.take_succ_cons, List.take_zero] at g0 g1 g2
      obtain ⟨z0, e0, _, f0⟩ := DataW.trod_int Tryd.underlying3 g0
      obtain ⟨z1, e1, _, f1⟩ := DataW.trod_int Tryd.underlying3 g1
      simp only [List.cons.injEq, and_true] at e0 e1
      subst e0 e1
      obtain ⟨B, bn, bc, e2⟩ := Joins.slice_form Tryd.underlying29 g2
      simp only [List.cons.injEq, and_true] at e2
      subst e2
      by_cases hwt : ∀ m ∈ y.1.weights Tryd.prog 93, m ≤ reachBytes
      · obtain ⟨B', bn', bc', bs, e, j1, j2, j3⟩ := open_is_w g2 (fun q hq => hwt q (by
          rw [hyy]
          simp only [DataW.weights, Tryd.underlying93]
          simp [DataW.weightsEach, hq]))
        simp only [List.cons.injEq, Value.slice.injEq, and_true] at e
        obtain ⟨rfl, rfl, rfl⟩ := e
        exact ⟨⟨z0, z1, B, bn, bc, bs⟩, fun _ => ⟨rfl, j3, j1, j2⟩⟩
      · exact ⟨default, fun h => absurd h hwt⟩)
  refine ⟨h1, h2, f, fun i hi => ?_⟩
  obtain ⟨b, o, cs, d', e, _, hc, hq, hd⟩ := h3 i hi
  obtain ⟨rfl, k1, k2, k3⟩ := hq (fun m hm => hw m (hd m hm))
  exact ⟨⟨b, o, e, by simpa using hc 0 _ rfl, hc 1 _ rfl, hc 2 _ rfl⟩, k1, k2, k3⟩
set_option maxRecDepth 20000 in
theorem open_Raw {r : Reach} {b0 : Nat} {v : Value} {d : DataW H} {p : List MemPlace} (hv : Value.okWide Tryd.prog W r b0 25 v) (h : DataW.Trod enc Tryd.prog W 0 (fun _ => true) true 25 v d p) (hw : ∀ m ∈ d.weights Tryd.prog 25, m ≤ reachBytes) :
    ∃ x : RawV, v = x.val ∧ RawOk W x := by
  obtain ⟨cs, rfl, hsz⟩ := okWide_struct Tryd.underlying25 hv
  obtain ⟨l, rfl⟩ : ∃ l : List Value, cs = l.toArray := ⟨cs.toList, by simp⟩
  rw [cells_raw] at hsz
  obtain ⟨c0, c1, c2, c3, c4, c5, c6, c7, c8, c9, c10, rfl⟩ := len11 (by simpa using hsz)
  obtain ⟨fuel, hf⟩ := h
  obtain ⟨xs, n, _, hx, hl, hlen, hg⟩ := DataW.trod_struct Tryd.underlying25 hf
  obtain ⟨y0, y1, y2, y3, y4, y5, y6, y7, y8, y9, y10, rfl⟩ := len11 (l := xs) hlen
  simp only [Prod.mk.injEq] at hx
  obtain ⟨hd, _⟩ := hx
  have g0 := hg 0 _ rfl
  have g1 := hg 1 _ rfl
  have g2 := hg 2 _ rfl
  have g3 := hg 3 _ rfl
  have g4 := hg 4 _ rfl
  have g5 := hg 5 _ rfl
  have g6 := hg 6 _ rfl
  have g7 := hg 7 _ rfl
  have g8 := hg 8 _ rfl
  have g9 := hg 9 _ rfl
  have g10 := hg 10 _ rfl
  simp [Value.cells, cells_int, cells_bytes, cells_rawdefs] at g0 g1 g2 g3 g4 g5 g6 g7 g8 g9 g10
  obtain ⟨z0, e0, _, _⟩ := DataW.trod_int Tryd.underlying3 g0
  obtain ⟨z1, e1, _, _⟩ := DataW.trod_int Tryd.underlying3 g1
  obtain ⟨z2, e2, _, _⟩ := DataW.trod_int Tryd.underlying3 g2
  obtain ⟨z3, e3, _, _⟩ := DataW.trod_int Tryd.underlying3 g3
  obtain ⟨z4, e4, _, _⟩ := DataW.trod_int Tryd.underlying3 g4
  obtain ⟨z5, e5, _, _⟩ := DataW.trod_int Tryd.underlying3 g5
  obtain ⟨z6, e6, _, _⟩ := DataW.trod_int Tryd.underlying3 g6
  obtain ⟨z7, e7, _, _⟩ := DataW.trod_int Tryd.underlying3 g7
  obtain ⟨z8, e8, _, _⟩ := DataW.trod_int Tryd.underlying3 g8
  simp only [List.cons.injEq, and_true] at e0 e1 e2 e3 e4 e5 e6 e7 e8
  subst e0 e1 e2 e3 e4 e5 e6 e7 e8
  subst hd
  have hwe : ∀ (j : Nat) (t : TypeId) (d' : DataW H), ([3, 3, 3, 3, 3, 3, 3, 3, 3, 22, 23] : List TypeId)[j]? = some t → ([y0.1, y1.1, y2.1, y3.1, y4.1, y5.1, y6.1, y7.1, y8.1, y9.1, y10.1] : List (DataW H))[j]? = some d' → ∀ m ∈ d'.weights Tryd.prog t, m ≤ reachBytes := fun j t d' ht hd' m hm => hw m (by
    simp only [DataW.weights, Tryd.underlying25]
    exact DataW.weights_mem_each (j := j) (t := t) (d := d') ht hd' m hm)
  obtain ⟨B, bn, bc, bs, e9, k1, k2, k3, k4, k5⟩ := open_by_w g9 (hwe 9 _ _ rfl rfl)
  obtain ⟨L, ln, lc, e10, k6⟩ := open_RawDs g10 (hwe 10 _ _ rfl rfl)
  simp only [List.cons.injEq, and_true] at e9 e10
  subst e9 e10
  exact ⟨⟨z0, z1, z2, z3, z4, z5, z6, z7, z8, B, bn, bc, bs, L, ln, lc⟩, rfl, ⟨k1, k2, k3, k4, k5, k6⟩⟩
end
end Go.Proofs.YtngfimjbgopgjaaDoor
