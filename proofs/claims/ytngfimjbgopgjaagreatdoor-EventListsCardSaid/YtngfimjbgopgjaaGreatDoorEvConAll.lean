/- EvCon, RawEv, StEv, in one text (merge.py). -/
import Derived.Test.YtngfimjbgopgjaaGreatDoorOne
import Derived.Test.YtngfimjbgopgjaaGreatDoorOctBack
import Derived.Test.YtngfimjbgopgjaaGreatDoorEvLayGA
import Derived.Test.YtngfimjbgopgjaaGreatDoorEvReadG
import Derived.Test.YtngfimjbgopgjaaGreatDoorEvSameAll
/- Contracts of event.Lay, Read, Same at some event. -/
namespace Go.Proofs.YtngfimjbgopgjaaGreatDoor
open Go.RowKit
set_option linter.unusedVariables false

theorem strs_back (s : ByteArray) : strOfNums (strB s) = s := by
  obtain ⟨d⟩ := s
  obtain ⟨l⟩ := d
  simp [strOfNums, strB, Function.comp_def]
theorem strB_byt (s : ByteArray) : ∀ z ∈ strB s, 0 ≤ z ∧ z ≤ 255 := by
  intro z hz
  simp only [strB, List.mem_map] at hz
  obtain ⟨b, _, rfl⟩ := hz
  have := b.toNat_lt
  omega
def EvF.right (f : EvF) : Bool := rightEB f.id f.ver f.tm f.ty f.node f.m f.nm f.bs.length (f.dl.map Df.v)
def EvF.lay (f : EvF) : List Int := evGB f.id f.ver f.tm f.ty f.node f.m f.nm f.bs (f.dl.map Df.v)
def EvF.v (f : EvF) : EvV := ⟨f.id, f.ver, f.tm, f.ty, f.node, f.m, strB f.nm, f.bs, f.dl.map Df.v⟩
theorem EvF.right_v (f : EvF) : f.v.right = f.right := by simp only [EvF.v, EvV.right, strs_back, EvF.right]
theorem EvF.lay_v (f : EvF) : f.v.lay = f.lay := by simp only [EvF.v, EvV.lay, strs_back, EvF.lay]
/-- It can be read, and is short. -/
structure EvRd (w : World) (f : EvF) : Prop where
  nm : f.nm.size ≤ 1048576
  bn : f.bs.length ≤ 1048576
  rd : Rd w f.A (f.bs.map (Value.int .u8))
  ds : RdDf w f.D f.dl
  dn : f.dl.length ≤ 1048576
  ns : ∀ d ∈ f.dl, d.ns.length ≤ 1048576
theorem EvOk.rdy {w : World} {g : Nat} {f : EvF} (h : EvOk w g f) : EvRd w f :=
  ⟨by have := h.nm; omega, by have := h.bn; omega, h.rd, h.ds, by have := h.dn; omega, fun d hd => by have := h.ns d hd; omega⟩
theorem EvRd.still {w w' : World} {f : EvF} (h : EvRd w f) (hc : Chg (fun _ => False) w w') : EvRd w' f :=
  ⟨h.nm, h.bn, h.rd.keep hc (fun _ _ h => h), h.ds.still hc, h.dn, h.ns⟩
theorem needsBy_byt : ∀ l : List Int, ∀ z ∈ needsBy l, 0 ≤ z ∧ z ≤ 255
  | [], z, hz => by cases hz
  | n :: l, z, hz => byt_app (be_byt _ _) (needsBy_byt l) z hz
theorem defsBy_byt : ∀ l : List (List Int × Int × Int), ∀ z ∈ defsBy l, 0 ≤ z ∧ z ≤ 255
  | [], z, hz => by cases hz
  | d :: l, z, hz => byt_app (byt_app (byt_app (byt_app (be_byt _ _) (be_byt _ _)) (be_byt _ _)) (needsBy_byt _)) (defsBy_byt l) z hz
theorem EvF.lay_byt (f : EvF) (h : ∀ z ∈ f.bs, 0 ≤ z ∧ z ≤ 255) : ∀ z ∈ f.lay, 0 ≤ z ∧ z ≤ 255 :=
  byt_app (byt_app (byt_app (byt_app (byt_app (byt_app (byt_app (byt_app (byt_app (byt_app (fun z hz => by cases hz) (be_byt _ _)) (be_byt _ _)) (be_byt _ _)) (be_byt _ _)) (be_byt _ _)) (be_byt _ _)) (shortB_byt (strB_byt _))) (shortB_byt h)) (be_byt _ _)) (defsBy_byt _)
theorem EvF.lay_len (f : EvF) (h : f.right = true) : f.lay.length ≤ 1000 := evGB_len h

/-- What Lay gives. -/
def LayGave (w : World) (f : EvF) (e : Ending) (w' : World) : Prop :=
  ((f.right = true ∧ ∃ A c, e = .returned (.tuple #[.slice A f.lay.length c, .int .i64 0]) ∧ w'.ownsRow w.heap.size 5 1 (.slice A f.lay.length c) f.lay.length (f.lay.map (Value.int .u8))) ∨ (f.right = false ∧ e = .returned (.tuple #[.slice none 0 0, .int .i64 1]))) ∧ Chg (fun _ => False) w w'
theorem lay_f (f : EvF) (w : World) (h : EvRd w f) : Calls Tryz.prog 22 #[f.val] w (LayGave w f) :=
  layG_any f.id f.ver f.tm f.ty f.node f.m f.nm f.A f.bs.length f.c f.bs f.D f.dl.length f.dc f.dl w h.rd rfl (by have := h.nm; omega) h.ds rfl (by have := h.dn; omega) (fun d hd => by have := h.ns d hd; omega)
theorem EvF.v_iff (f f' : EvF) : f.v = f'.v ↔ (f.id = f'.id ∧ f.ver = f'.ver ∧ f.tm = f'.tm ∧ f.ty = f'.ty ∧ f.node = f'.node ∧ f.m = f'.m ∧ f.nm = f'.nm ∧ f.bs = f'.bs ∧ f.dl.map Df.v = f'.dl.map Df.v) := by
  have hn : strB f.nm = strB f'.nm ↔ f.nm = f'.nm := ⟨fun h => by rw [← strs_back f.nm, h, strs_back], fun h => by rw [h]⟩
  simp only [EvF.v, EvV.mk.injEq, hn]
theorem same_f (f f' : EvF) (w : World) (h : EvRd w f) (h' : EvRd w f') : Calls Tryz.prog 32 #[f.val, f'.val] w fun e w' => (∃ b : Bool, e = .returned (.bool b) ∧ (b = true ↔ f.v = f'.v)) ∧ Chg (fun _ => False) w w' := by
  have h1 := sameG_any f.id f.ver f.tm f.ty f.node f.m f.nm f.A f.bs.length f.c f.bs f.D f.dl.length f.dc f.dl f'.id f'.ver f'.tm f'.ty f'.node f'.m f'.nm f'.A f'.bs.length f'.c f'.bs f'.D f'.dl.length f'.dc f'.dl w h.rd h'.rd rfl rfl h.bn h'.bn h.ds h'.ds rfl rfl h.dn h'.dn h.ns h'.ns
  refine h1.mono fun e w' ⟨he, hc⟩ => ⟨⟨_, he, ?_⟩, hc⟩
  simp only [Bool.and_eq_true, decide_eq_true_eq, EvF.v_iff]
/-- What Read gives of bytes that are an event's, and of those that are none. -/
def ReadOf (w : World) (xs : List Int) (e : Ending) (w' : World) : Prop :=
  ((∃ z : EvF, e = .returned (.tuple #[z.val, .int .i64 0]) ∧ EvRd w' z ∧ z.right = true ∧ z.lay = xs) ∨ e = .returned (.tuple #[.agg #[.int .i64 0, .int .i64 0, .int .i64 0, .int .i64 0, .int .i64 0, .int .i64 0, .string { data := #[] }, .slice none 0 0, .slice none 0 0], .int .i64 5])) ∧ Chg (fun _ => False) w w'
theorem read_rdy {w' : World} {v : EvV} {A : Option Addr} {c : Nat} {D : Option Addr} {dc : Nat} {dl : List Df} (hr : v.right = true) (h1 : Rd w' A (v.bs.map (Value.int .u8))) (h2 : RdDf w' D dl) (h3 : dl.map Df.v = v.dv) : EvRd w' ⟨v.id, v.ver, v.tm, v.ty, v.node, v.m, strOfNums v.nb, A, c, v.bs, D, dc, dl⟩ := by
  obtain ⟨a1, a2, a3, a4, a5, a6, a7, a8, a9, a10⟩ := right_parts hr
  rw [← h3, List.length_map] at a9
  refine ⟨by simp only [strOfNums_size]; omega, by simp only; omega, h1, h2, by simp only; omega, fun d hd => ?_⟩
  have := (a10 d.v (by rw [← h3]; exact List.mem_map_of_mem hd)).2.2.1
  have : d.ns.length ≤ 255 := this
  omega
theorem read_any (B : Option Addr) (n d : Nat) (xs : List Int) (w : World) (h : Rd w B (xs.map (Value.int .u8))) (hn : xs.length = n) (hn2 : n ≤ 140737488355328) (hby : ∀ x ∈ xs, 0 ≤ x ∧ x ≤ 255) :
    Calls Tryz.prog 30 #[.slice B n d] w (ReadOf w xs) := by
  refine (readG_any B n d xs w h hn hn2 hby).mono fun e w' ⟨h1, hc⟩ => ⟨?_, hc⟩
  rcases h1 with ⟨hr, hl, A', c', D, dc, dl, he, k1, k2, k3⟩ | ⟨_, he⟩
  · refine .inl ⟨⟨(readV xs).id, (readV xs).ver, (readV xs).tm, (readV xs).ty, (readV xs).node, (readV xs).m, strOfNums (readV xs).nb, A', c', (readV xs).bs, D, dc, dl⟩, he, read_rdy hr k1 k2 k3, ?_, ?_⟩
    · rw [EvV.right] at hr; simp only [EvF.right, k3]; exact hr
    · rw [EvV.lay] at hl; simp only [EvF.lay, k3]; exact hl
  · exact .inr he
theorem read_lay (f : EvF) (B : Option Addr) (n d : Nat) (w : World) (hr : f.right = true) (hb : ∀ z ∈ f.bs, 0 ≤ z ∧ z ≤ 255) (h : Rd w B (f.lay.map (Value.int .u8))) (hn : f.lay.length = n) :
    Calls Tryz.prog 30 #[.slice B n d] w fun e w' => (∃ z : EvF, e = .returned (.tuple #[z.val, .int .i64 0]) ∧ EvRd w' z ∧ z.v = f.v) ∧ Chg (fun _ => False) w w' := by
  have hv : readV f.lay = f.v := by rw [← f.lay_v]; exact readV_lay (by rw [f.right_v]; exact hr) (strB_byt _)
  have h0 := readG_any B n d f.lay w h hn (by have := f.lay_len hr; omega) (f.lay_byt hb)
  rw [hv] at h0
  refine h0.mono fun e w' ⟨h1, hc⟩ => ⟨?_, hc⟩
  rcases h1 with ⟨h2, hl, A', c', D, dc, dl, he, k1, k2, k3⟩ | ⟨h2, he⟩
  · refine ⟨⟨f.v.id, f.v.ver, f.v.tm, f.v.ty, f.v.node, f.v.m, strOfNums f.v.nb, A', c', f.v.bs, D, dc, dl⟩, he, read_rdy h2 k1 k2 k3, ?_⟩
    simp only [EvF.v, k3, strs_back]
  · exact absurd ⟨by rw [f.right_v]; exact hr, f.lay_v⟩ h2
/-- Two right events are laid alike where they are the same. -/
theorem lay_iff (f u : EvF) (h : f.right = true) (h' : u.right = true) (hb : ∀ z ∈ f.bs, 0 ≤ z ∧ z ≤ 255) (hb' : ∀ z ∈ u.bs, 0 ≤ z ∧ z ≤ 255) : strOfNums f.lay = strOfNums u.lay ↔ f.v = u.v := by
  constructor
  · intro e
    have e2 : f.lay = u.lay := by rw [← strB_back _ (f.lay_byt hb), e, strB_back _ (u.lay_byt hb')]
    refine lay_inj (by rw [f.right_v]; exact h) (strB_byt _) (by rw [u.right_v]; exact h') (strB_byt _) ?_
    rw [f.lay_v, u.lay_v, e2]
  · intro e
    rw [← f.lay_v, ← u.lay_v, e]
end Go.Proofs.YtngfimjbgopgjaaGreatDoor

/- An event as an argument, in the walk's words. -/
namespace Go.Proofs.YtngfimjbgopgjaaGreatDoor
open Go.ChangeShapes Go.WideShapes Go.ChangeAt Go.RowKit Go.Deep
set_option linter.unusedVariables false

theorem cells_event : Tryz.prog.cellsOf 32 = 9 := by kernel_rfl
theorem cells_def : Tryz.prog.cellsOf 85 = 3 := by kernel_rfl
theorem cells_defs : Tryz.prog.cellsOf 30 = 1 := by kernel_rfl
theorem cells_str : Tryz.prog.cellsOf 9 = 1 := by kernel_rfl
theorem len9 {α : Type} {l : List α} (h : l.length = 9) : ∃ a0 a1 a2 a3 a4 a5 a6 a7 a8, l = [a0, a1, a2, a3, a4, a5, a6, a7, a8] := by
  match l, h with
  | [a0, a1, a2, a3, a4, a5, a6, a7, a8], _ => exact ⟨a0, a1, a2, a3, a4, a5, a6, a7, a8, rfl⟩
/-- What is known of any event that came in, or was made. -/
structure EvBig (w : World) (f : EvF) : Prop where
  nm : f.nm.size ≤ 140737488351232
  bn : f.bs.length ≤ 140737488351232
  byt : ∀ z ∈ f.bs, 0 ≤ z ∧ z ≤ 255
  rd : Rd w f.A (f.bs.map (Value.int .u8))
  ds : RdDf w f.D f.dl
  dn : f.dl.length ≤ 17592186044416
  ns : ∀ d ∈ f.dl, d.ns.length ≤ 17592186044416
theorem EvOk.big {w : World} {g : Nat} {f : EvF} (h : EvOk w g f) : EvBig w f :=
  ⟨by have := h.nm; omega, by have := h.bn; omega, h.byt, h.rd, h.ds, by have := h.dn; omega, fun d hd => by have := h.ns d hd; omega⟩
theorem EvBig.still {w w' : World} {f : EvF} (h : EvBig w f) (hc : Chg (fun _ => False) w w') : EvBig w' f := ⟨h.nm, h.bn, h.byt, h.rd.keep hc (fun _ _ h => h), h.ds.still hc, h.dn, h.ns⟩
/-- Stores into a block that came later turn nothing of it. -/
theorem EvBig.past {S : Nat → Prop} {w w1 w' : World} {f : EvF} (h : EvBig w f) (h1 : Chg (fun _ => False) w w1) (hc : Chg S w1 w') (hS : ∀ x, S x → w.heap.size ≤ x) : EvBig w' f := by
  have hc2 : Chg (fun _ => False) w w' := h1.trans hc (fun x hx => .inr (hS x hx))
  exact h.still hc2
/-- A []Def that came in. -/
theorem rd_defs {w : World} {b o n : Nat} {f : Nat → Df} (h : ∀ i, i < n → w.cell? ⟨b, o + i * 3, none⟩ = some (.slice (f i).A (f i).ns.length (f i).c) ∧ w.cell? ⟨b, o + i * 3 + 1, none⟩ = some (.int .i64 (f i).tr) ∧ w.cell? ⟨b, o + i * 3 + 2, none⟩ = some (.int .i64 (f i).le)) :
    Rd w (some ⟨b, o, none⟩) (dfC ((List.range n).map f)) := by
  refine .inr ⟨b, o, rfl, fun j u hj => ?_⟩
  have hl : j < n * 3 := by
    have := (List.getElem?_eq_some_iff.1 hj).1
    rwa [dfC_len, List.length_map, List.length_range] at this
  obtain ⟨i, r, hr, rfl⟩ : ∃ i r, r < 3 ∧ j = i * 3 + r := ⟨j / 3, j % 3, Nat.mod_lt _ (by omega), by omega⟩
  have hi : i < n := by omega
  obtain ⟨h0, h1, h2⟩ := h i hi
  have hil : i < ((List.range n).map f).length := by simpa using hi
  obtain ⟨p0, p1, p2⟩ := dfC_get ((List.range n).map f) i hil
  simp only [List.getElem_map, List.getElem_range] at p0 p1 p2
  rcases (by omega : r = 0 ∨ r = 1 ∨ r = 2) with rfl | rfl | rfl
  · rw [Nat.add_zero] at hj ⊢
    rw [p0] at hj
    rw [← hj]; exact h0
  · rw [p1] at hj
    rw [← Nat.add_assoc, ← hj]; exact h1
  · rw [p2] at hj
    rw [← Nat.add_assoc, ← hj]; exact h2

section
variable {H : Type} {enc : TypeId × Value → H} {W : World}
instance : Inhabited Df := ⟨⟨none, 0, [], 0, 0⟩⟩
theorem open_Defs {fuel : Nat} {cs : List Value} {y : DataW H × List MemPlace} (h : DataW.trod enc Tryz.prog W 0 (fun _ => true) true fuel 30 cs = some y) (hw : ∀ m ∈ y.1.weights Tryz.prog 30, m ≤ reachBytes) :
    ∃ (D : Option Addr) (dc : Nat) (dl : List Df), cs = [.slice D dl.length dc] ∧ RdDf W D dl ∧ dl.length ≤ 17592186044416 ∧ ∀ d ∈ dl, d.ns.length ≤ 17592186044416 := by
  obtain ⟨A, n, c, rfl⟩ := Joins.slice_form Tryz.underlying30 h
  have hn : n ≤ 17592186044416 := by
    rcases open_slice Tryz.underlying30 h with ⟨hcs, _⟩ | ⟨a, l, cp, m, fu, D, Pl, hcs, _, _, _, _, hxx, _⟩
    · simp at hcs; omega
    · simp at hcs
      obtain ⟨_, rfl, _⟩ := hcs
      have h2 := hw _ (by rw [hxx]; simp only [DataW.weights, Tryz.underlying30]; exact List.mem_cons_self)
      rw [show Tryz.prog.bytesOf 85 = 40 by kernel_rfl] at h2
      simp only [List.length_map, List.length_range, reachBytes] at h2
      omega
  obtain ⟨h1, h2, f, h3⟩ := open_elems_w (α := Df) Tryz.underlying30 cells_def (by omega) h
    (fun cs d v => (∀ m ∈ d.weights Tryz.prog 85, m ≤ reachBytes) → cs = [.slice v.A v.ns.length v.c, .int .i64 v.tr, .int .i64 v.le] ∧ Rd W v.A (v.ns.map (Value.int .i64)) ∧ v.ns.length ≤ 17592186044416) (by
      intro m cs y hy
      obtain ⟨y0, y1, y2, k, hyy, hl, g0, g1, g2⟩ := trod_struct3 Tryz.underlying85 hy
      rw [cells_def] at hl
      obtain ⟨c0, c1, c2, rfl⟩ := len3 hl
      simp only [cells_int, cells_is, List.drop_succ_cons, List.drop_zero, List.take_succ_cons, List.take_zero] at g0 g1 g2
      obtain ⟨z1, e1, _, f1⟩ := DataW.trod_int Tryz.underlying3 g1
      obtain ⟨z2, e2, _, f2⟩ := DataW.trod_int Tryz.underlying3 g2
      simp only [List.cons.injEq, and_true] at e1 e2
      subst e1 e2
      obtain ⟨B, bn, bc, e0⟩ := Joins.slice_form Tryz.underlying81 g0
      simp only [List.cons.injEq, and_true] at e0
      subst e0
      by_cases hwt : ∀ m ∈ y.1.weights Tryz.prog 85, m ≤ reachBytes
      · obtain ⟨B', bn', bc', bs, e, j1, j2, j3⟩ := open_is_w g0 (fun q hq => hwt q (by
          rw [hyy]
          simp only [DataW.weights, Tryz.underlying85]
          simp [DataW.weightsEach, hq]))
        simp only [List.cons.injEq, Value.slice.injEq, and_true] at e
        obtain ⟨rfl, rfl, rfl⟩ := e
        exact ⟨⟨B, bc, bs, z1, z2⟩, fun _ => ⟨by rw [j1], j3, by simp only; omega⟩⟩
      · exact ⟨default, fun h => absurd h hwt⟩)
  have hel : ∀ i, i < n → ∃ b o, A = some ⟨b, o, none⟩ ∧ (W.cell? ⟨b, o + i * 3, none⟩ = some (.slice (f i).A (f i).ns.length (f i).c) ∧ W.cell? ⟨b, o + i * 3 + 1, none⟩ = some (.int .i64 (f i).tr) ∧ W.cell? ⟨b, o + i * 3 + 2, none⟩ = some (.int .i64 (f i).le)) ∧ Rd W (f i).A ((f i).ns.map (Value.int .i64)) ∧ (f i).ns.length ≤ 17592186044416 := fun i hi => by
    obtain ⟨b, o, cs, d', e, _, hc, hq, hd⟩ := h3 i hi
    obtain ⟨rfl, k1, k2⟩ := hq (fun m hm => hw m (hd m hm))
    exact ⟨b, o, e, ⟨by simpa using hc 0 _ rfl, hc 1 _ rfl, hc 2 _ rfl⟩, k1, k2⟩
  have hmem : ∀ d ∈ (List.range n).map f, ∃ i, i < n ∧ f i = d := fun d hd => by
    obtain ⟨i, hi, e⟩ := List.mem_map.1 hd
    exact ⟨i, List.mem_range.1 hi, e⟩
  refine ⟨A, c, (List.range n).map f, by simp, ⟨?_, fun d hd => ?_⟩, by simpa using hn, fun d hd => ?_⟩
  · rcases Nat.eq_zero_or_pos n with h0 | h0
    · subst h0; exact Rd.nil _ _
    · obtain ⟨b, o, rfl, _, _⟩ := hel 0 h0
      exact rd_defs fun i hi => by
        obtain ⟨b', o', e, h4, _⟩ := hel i hi
        cases e
        exact h4
  · obtain ⟨i, hi, rfl⟩ := hmem d hd
    obtain ⟨_, _, _, _, h5, _⟩ := hel i hi
    exact h5
  · obtain ⟨i, hi, rfl⟩ := hmem d hd
    obtain ⟨_, _, _, _, _, h6⟩ := hel i hi
    exact h6
set_option maxRecDepth 20000 in
theorem open_Event {r : Reach} {b0 : Nat} {v : Value} {d : DataW H} {p : List MemPlace} (hv : Value.okWide Tryz.prog W r b0 32 v) (h : DataW.Trod enc Tryz.prog W 0 (fun _ => true) true 32 v d p) (hw : ∀ m ∈ d.weights Tryz.prog 32, m ≤ reachBytes) :
    ∃ x : EvF, v = x.val ∧ EvBig W x := by
  obtain ⟨cs, rfl, hsz⟩ := okWide_struct Tryz.underlying32 hv
  obtain ⟨l, rfl⟩ : ∃ l : List Value, cs = l.toArray := ⟨cs.toList, by simp⟩
  rw [cells_event] at hsz
  obtain ⟨c0, c1, c2, c3, c4, c5, c6, c7, c8, rfl⟩ := len9 (by simpa using hsz)
  obtain ⟨fuel, hf⟩ := h
  obtain ⟨xs, n, _, hx, hl, hlen, hg⟩ := DataW.trod_struct Tryz.underlying32 hf
  obtain ⟨y0, y1, y2, y3, y4, y5, y6, y7, y8, rfl⟩ := len9 (l := xs) hlen
  simp only [Prod.mk.injEq] at hx
  obtain ⟨hd, _⟩ := hx
  have g0 := hg 0 _ rfl
  have g1 := hg 1 _ rfl
  have g2 := hg 2 _ rfl
  have g3 := hg 3 _ rfl
  have g4 := hg 4 _ rfl
  have g5 := hg 5 _ rfl
  have g6 := hg 6 _ rfl
  have g7 := hg 7 _ rfl
  have g8 := hg 8 _ rfl
  simp [Value.cells, cells_int, cells_bytes, cells_defs, cells_str] at g0 g1 g2 g3 g4 g5 g6 g7 g8
  obtain ⟨z0, e0, _, _⟩ := DataW.trod_int Tryz.underlying3 g0
  obtain ⟨z1, e1, _, _⟩ := DataW.trod_int Tryz.underlying3 g1
  obtain ⟨z2, e2, _, _⟩ := DataW.trod_int Tryz.underlying3 g2
  obtain ⟨z3, e3, _, _⟩ := DataW.trod_int Tryz.underlying3 g3
  obtain ⟨z4, e4, _, _⟩ := DataW.trod_int Tryz.underlying3 g4
  obtain ⟨z5, e5, _, _⟩ := DataW.trod_int Tryz.underlying3 g5
  obtain ⟨s6, e6, e6', _⟩ := DataW.trod_string Tryz.underlying9 g6
  simp only [List.cons.injEq, and_true] at e0 e1 e2 e3 e4 e5 e6
  subst e0 e1 e2 e3 e4 e5 e6
  subst hd
  have hwe : ∀ (j : Nat) (t : TypeId) (d' : DataW H), ([3, 3, 3, 3, 3, 3, 9, 24, 30] : List TypeId)[j]? = some t → ([y0.1, y1.1, y2.1, y3.1, y4.1, y5.1, y6.1, y7.1, y8.1] : List (DataW H))[j]? = some d' → ∀ m ∈ d'.weights Tryz.prog t, m ≤ reachBytes := fun j t d' ht hd' m hm => hw m (by
    simp only [DataW.weights, Tryz.underlying32]
    exact DataW.weights_mem_each (j := j) (t := t) (d := d') ht hd' m hm)
  have hs6 : s6.size ≤ 140737488351232 := by
    have h2 := hwe 6 _ _ rfl rfl s6.data.toList.length (by rw [e6']; simp [DataW.weights])
    exact str_reach h2
  obtain ⟨B, bn, bc, bs, e7, k1, k2, k3, k4, k5⟩ := open_by_w g7 (hwe 7 _ _ rfl rfl)
  obtain ⟨D, dc, dl, e8, k6, k7, k8⟩ := open_Defs g8 (hwe 8 _ _ rfl rfl)
  simp only [List.cons.injEq, and_true] at e7 e8
  subst e7 e8 k1
  exact ⟨⟨z0, z1, z2, z3, z4, z5, s6, B, bc, bs, D, dc, dl⟩, rfl, ⟨hs6, k3, k5, k4, k6, k7, k8⟩⟩
end
end Go.Proofs.YtngfimjbgopgjaaGreatDoor

/- Lists of events in memory; lines of events. -/
namespace Go.Proofs.YtngfimjbgopgjaaGreatDoor
open Go.RowKit
set_option linter.unusedVariables false

/-- Events, cell by cell. -/
def eoC : List EvF → List Value
  | [] => []
  | x :: l => .int .i64 x.id :: .int .i64 x.ver :: .int .i64 x.tm :: .int .i64 x.ty :: .int .i64 x.node :: .int .i64 x.m :: .string x.nm :: .slice x.A x.bs.length x.c :: .slice x.D x.dl.length x.dc :: eoC l
theorem eoC_len (l : List EvF) : (eoC l).length = l.length * 9 := by
  induction l with
  | nil => rfl
  | cons x l ih => simp only [eoC, List.length_cons, ih]; omega
theorem eoC_app (l m : List EvF) : eoC (l ++ m) = eoC l ++ eoC m := by
  induction l with
  | nil => rfl
  | cons x l ih => simp [eoC, ih]
theorem eoC_sing (x : EvF) : eoC [x] = x.row.toList := rfl
theorem eoC_one (l : List EvF) : ∀ u ∈ eoC l, u.oneCell' = true := by
  induction l with
  | nil => intro u hu; cases hu
  | cons x l ih =>
    intro u hu
    simp only [eoC, List.mem_cons] at hu
    rcases hu with rfl | rfl | rfl | rfl | rfl | rfl | rfl | rfl | rfl | hu
    all_goals first | rfl | exact ih u hu
theorem eoC_get (l : List EvF) (k : Nat) (h : k < l.length) :
    (eoC l)[k * 9]? = some (.int .i64 l[k].id) ∧ (eoC l)[k * 9 + 1]? = some (.int .i64 l[k].ver) ∧ (eoC l)[k * 9 + 2]? = some (.int .i64 l[k].tm) ∧ (eoC l)[k * 9 + 3]? = some (.int .i64 l[k].ty) ∧ (eoC l)[k * 9 + 4]? = some (.int .i64 l[k].node) ∧ (eoC l)[k * 9 + 5]? = some (.int .i64 l[k].m) ∧ (eoC l)[k * 9 + 6]? = some (.string l[k].nm) ∧ (eoC l)[k * 9 + 7]? = some (.slice l[k].A l[k].bs.length l[k].c) ∧ (eoC l)[k * 9 + 8]? = some (.slice l[k].D l[k].dl.length l[k].dc) := by
  induction l generalizing k with
  | nil => simp at h
  | cons x l ih =>
    cases k with
    | zero => exact ⟨rfl, rfl, rfl, rfl, rfl, rfl, rfl, rfl, rfl⟩
    | succ k =>
      have := ih k (by simpa using h)
      rw [show (k + 1) * 9 = k * 9 + 1 + 1 + 1 + 1 + 1 + 1 + 1 + 1 + 1 by omega]
      simpa [eoC] using this
/-- An event that can be read, and is short; its data are bytes. -/
structure EvS (w : World) (f : EvF) : Prop where
  rdy : EvRd w f
  byt : ∀ z ∈ f.bs, 0 ≤ z ∧ z ≤ 255
theorem EvS.still {w w' : World} {f : EvF} (h : EvS w f) (hc : Chg (fun _ => False) w w') : EvS w' f := ⟨h.rdy.still hc, h.byt⟩
theorem EvS.big {w : World} {f : EvF} (h : EvS w f) : EvBig w f :=
  ⟨by have := h.rdy.nm; omega, by have := h.rdy.bn; omega, h.byt, h.rdy.rd, h.rdy.ds, by have := h.rdy.dn; omega, fun d hd => by have := h.rdy.ns d hd; omega⟩
/-- A slice that reads as events. -/
structure RdEv (w : World) (A : Option Addr) (l : List EvF) : Prop where
  rd : Rd w A (eoC l)
  ev : ∀ f ∈ l, EvS w f
theorem RdEv.nil (w : World) (A : Option Addr) : RdEv w A [] := ⟨Rd.nil _ _, fun d hd => by cases hd⟩
theorem RdEv.still {w w' : World} {A : Option Addr} {l : List EvF} (h : RdEv w A l) (hc : Chg (fun _ => False) w w') : RdEv w' A l :=
  ⟨h.rd.keep hc (fun _ _ h => h), fun f hf => (h.ev f hf).still hc⟩
/-- A line of events, from an ID, a version, a time, to an ID, a version, a time. -/
def Chain : Int × Int × Int → List EvF → Int × Int × Int → Prop
  | a, [], b => a = b
  | a, x :: l, b => (x.right = true ∧ x.id = a.1 + 1 ∧ a.2.1 ≤ x.ver ∧ a.2.2 ≤ x.tm) ∧ Chain (x.id, x.ver, x.tm) l b
theorem Chain.app : ∀ {l m : List EvF} {a b c : Int × Int × Int}, Chain a l b → Chain b m c → Chain a (l ++ m) c
  | [], m, a, b, c, h, k => by cases h; exact k
  | x :: l, m, a, b, c, h, k => ⟨h.1, Chain.app h.2 k⟩
theorem Chain.len : ∀ {l : List EvF} {a b : Int × Int × Int}, Chain a l b → b.1 = a.1 + l.length
  | [], a, b, h => by cases h; simp
  | x :: l, a, b, h => by
    have h1 := Chain.len h.2
    have h2 := h.1.2.1
    simp only [List.length_cons] at h1 ⊢
    omega
theorem EvF.parts {f : EvF} (h : f.right = true) : (1 ≤ f.id ∧ f.id ≤ 200) ∧ (1 ≤ f.ver ∧ f.ver ≤ 1099511627776) ∧ (0 ≤ f.tm ∧ f.tm ≤ 1099511627776) ∧ (1 ≤ f.ty ∧ f.ty ≤ 12) ∧ (0 ≤ f.node ∧ f.node ≤ 7) ∧ f.nm.size ≤ 16 ∧ f.bs.length ≤ 40 ∧ f.dl.length ≤ 8 ∧ ∀ d ∈ f.dl, d.ns.length ≤ 255 ∧ ∀ n ∈ d.ns, 0 ≤ n := by
  obtain ⟨a1, a2, a3, a4, a5, a6, a7, a8, a9, a10⟩ := right_parts (v := f.v) (by rw [f.right_v]; exact h)
  have e1 : f.v.nb.length = f.nm.size := by
    have := strOfNums_size f.v.nb
    rw [show strOfNums f.v.nb = f.nm from strs_back _] at this
    omega
  refine ⟨a1, a2, a3, a4, a5, by omega, a8, ?_, fun d hd => ?_⟩
  · have : f.v.dv.length = f.dl.length := List.length_map _
    omega
  · have h1 := a10 d.v (List.mem_map_of_mem hd)
    exact ⟨h1.2.2.1, fun n hn => (h1.2.2.2 n hn).1⟩
theorem Chain.all {l : List EvF} : ∀ {a b : Int × Int × Int}, Chain a l b → ∀ f ∈ l, f.right = true := by
  induction l with
  | nil => intro a b _ f hf; cases hf
  | cons x l ih =>
    intro a b h f hf
    rcases List.mem_cons.1 hf with rfl | hf
    · exact h.1.1
    · exact ih h.2 f hf
theorem Chain.le200 {l : List EvF} {a b : Int × Int × Int} (h : Chain a l b) (ha : a.1 ≤ 200) : b.1 ≤ 200 := by
  induction l generalizing a with
  | nil => cases h; exact ha
  | cons x l ih => exact ih h.2 (EvF.parts h.1.1).1.2
end Go.Proofs.YtngfimjbgopgjaaGreatDoor
