/- What Apply's walk needs beside the walk (gen_apply.py). -/
import Derived.Test.YtngfimjbgopgjaaGreatDoorStTim
import Derived.Test.YtngfimjbgopgjaaGreatDoorStChk
import Derived.Test.YtngfimjbgopgjaaGreatDoorRfRight
import Derived.Test.YtngfimjbgopgjaaGreatDoorNetAll
namespace Go.Proofs.YtngfimjbgopgjaaGreatDoor
open Go.RowKit
set_option linter.unusedVariables false

theorem stSize : (Tryz.prog.info? 78).map (·.size) = some 9 := by kernel_rfl
theorem rright_s (f : EvF) (w : World) (h : EvS w f) : Calls Tryz.prog 29 #[.agg #[.int .i64 f.id, .int .i64 f.ver, .int .i64 f.tm, .int .i64 f.ty, .int .i64 f.node, .int .i64 f.m, .string f.nm, .slice f.A f.bs.length f.c, .slice f.D f.dl.length f.dc]] w fun e w' => e = .returned (.bool f.right) ∧ Chg (fun _ => False) w w' :=
  rRightE_any f.id f.ver f.tm f.ty f.node f.m f.nm f.A f.bs.length f.c f.D f.dl.length f.dc f.dl w (by have := h.big.nm; omega) h.big.ds rfl h.big.dn (by have := h.big.bn; omega) h.big.ns
/-- What Apply gives: a state, and 0 where it took the event; it stands though blocks of S turn. -/
def Applied (S : Nat → Prop) (s : StV) (f : EvF) (w : World) (e : Ending) (w' : World) : Prop :=
  ∃ (s' : StV) (k : Int), e = .returned (.tuple #[s'.val, .int .i64 k]) ∧ Chg (fun _ => False) w w' ∧
    (k = 0 → (∀ u, Chg S w' u → StOk u s') ∧ TlOk s'.tl ∧ s'.sl.length ≤ s.sl.length + 1 ∧ f.right = true ∧ f.id = s.id + 1 ∧ s.ver ≤ f.ver ∧ s.tm ≤ f.tm ∧ s'.id = f.id ∧ s'.ver = f.ver ∧ s'.tm = f.tm)
/-- The load of the signals' slice in Apply, under a name: so the drawn region's walk branches over it. -/
def sigLoad : Oper := { dst := some 92, op := .load 76 (.tmp 91), type := 76, pos := "state.go:209", after := #[{ on := 1, ground := .data }], guard := none }
@[simp] theorem sigLoad_dst : sigLoad.dst = some 92 := rfl
@[simp] theorem sigLoad_op : sigLoad.op = .load 76 (.tmp 91) := rfl
@[simp] theorem sigLoad_type : sigLoad.type = 76 := rfl
@[simp] theorem sigLoad_guard : sigLoad.guard = none := rfl
theorem sigLoad_eq : ({ dst := some 92, op := .load 76 (.tmp 91), type := 76, pos := "state.go:209", after := #[{ on := 1, ground := .data }], guard := none } : Oper) = sigLoad := rfl
/-- Blocks of S, and four blocks from p on. -/
def Four (S : Nat → Prop) (p : Nat) : Nat → Prop := fun x => S x ∨ (p ≤ x ∧ x ≤ p + 3)
/-- The state's box behind the switch. -/
def SwRel (S : Nat → Prop) (s : StV) (p : Nat) (wA : World) (v : Value) (w' : World) : Prop :=
  ∃ (k : Int) (s2 : StV), v = .int .i64 k ∧ BoxAt w' p 78 #[.int .i64 s2.id, .int .i64 s2.ver, .int .i64 s2.tm, .int .i64 s2.cl, .bool s2.ca, .slice s2.D s2.dl.length s2.dc, .slice s2.N s2.nl.length s2.nc, .slice s2.T s2.tl.length s2.tc, .slice s2.S s2.sl.length s2.sc] ∧ (k = 0 → (∀ w2, Chg (Four S p) w' w2 → StOk w2 s2) ∧ TlOk s2.tl ∧ s2.sl.length ≤ s.sl.length + 1) ∧ Chg (fun x => x = p ∨ p + 3 < x) wA w'
def noSt : StV := ⟨0, 0, 0, 0, false, none, [], 0, none, [], 0, none, [], 0, none, [], 0⟩
theorem Applied.no {S : Nat → Prop} {s : StV} {f : EvF} {w w' : World} (k : Int) (hk : k ≠ 0) (hc : Chg (fun _ => False) w w')   : Applied S s f w (.returned (.tuple #[.agg #[.int .i64 0, .int .i64 0, .int .i64 0, .int .i64 0, .bool false, .slice none 0 0, .slice none 0 0, .slice none 0 0, .slice none 0 0], .int .i64 k])) w' :=
  ⟨noSt, k, rfl, hc, fun h => absurd h hk⟩
theorem made_nd (n : Nat) : (madeCells (Value.cells (.agg #[.int .i64 0, .int .i64 0, .int .i64 0, .slice none 0 0])) (n * 4)).toList = ndC (List.replicate n ⟨0, 0, 0, none, 0, 0⟩) := by
  have hz : Value.cells (.agg #[.int .i64 0, .int .i64 0, .int .i64 0, .slice none 0 0]) = #[.int .i64 0, .int .i64 0, .int .i64 0, .slice none 0 0] := rfl
  rw [hz]
  apply List.ext_getElem?
  intro i
  by_cases hi : i < n * 4
  · obtain ⟨k, r, hr, rfl⟩ : ∃ k r, r < 4 ∧ i = k * 4 + r := ⟨i / 4, i % 4, Nat.mod_lt _ (by omega), by omega⟩
    have hk : k < (List.replicate n (⟨0, 0, 0, none, 0, 0⟩ : Nd)).length := by simp; omega
    obtain ⟨p0, p1, p2, p3⟩ := ndC_get (List.replicate n (⟨0, 0, 0, none, 0, 0⟩ : Nd)) k hk
    simp only [List.getElem_replicate] at p0 p1 p2 p3
    have hm : (k * 4 + r) % 4 = r := by omega
    have hl : (madeCells #[Value.int .i64 0, .int .i64 0, .int .i64 0, .slice none 0 0] (n * 4)).toList[k * 4 + r]? = some (#[Value.int .i64 0, .int .i64 0, .int .i64 0, .slice none 0 0][r]!) := by
      simp [madeCells, hi, hm]
    rw [hl]
    rcases (by omega : r = 0 ∨ r = 1 ∨ r = 2 ∨ r = 3) with rfl | rfl | rfl | rfl
    · rw [Nat.add_zero, p0]; rfl
    · rw [p1]; rfl
    · rw [p2]; rfl
    · rw [p3]; rfl
  · rw [List.getElem?_eq_none (by simp [madeCells]; omega), List.getElem?_eq_none (by rw [ndC_len]; simp; omega)]
/-- A state whose nodes are fresh since w, its box p, too. -/
structure StNew (S : Nat → Prop) (w : World) (p : Nat) (s1 : StV) (wc : World) : Prop where
  ok : StOk wc s1
  rest : ∀ (Q : Nat → Prop) w', Chg Q wc w' → (∀ x, Q x → S x ∨ w.heap.size ≤ x) → RdDf w' s1.D s1.dl ∧ Rd w' s1.T (tmC s1.tl) ∧ Rd w' s1.S (sgC s1.sl)
  own : wc.ownsRow w.heap.size 114 4 (.slice s1.N s1.nl.length s1.nc) s1.nl.length (ndC s1.nl)
  off : ∀ x, In s1.N x → p + 3 < x
  old : w.heap.size ≤ p
  lt : ∀ x, S x → x < w.heap.size
theorem Four.far {S : Nat → Prop} {w : World} {p x : Nat} (lt : ∀ x, S x → x < w.heap.size) (h1 : w.heap.size ≤ x) (h2 : p + 3 < x) : ¬ Four S p x := fun h => by
  rcases h with h | h
  · have := lt x h; omega
  · have := h.2; omega
theorem StNew.okP {S : Nat → Prop} {w wc w' : World} {p : Nat} {s1 : StV} (h : StNew S w p s1 wc) (hc : Chg (Four S p) wc w') : StOk w' s1 := by
  obtain ⟨a, b, c⟩ := h.rest _ w' hc (fun x hx => hx.elim .inl (fun h' => .inr (Nat.le_trans h.old h'.1)))
  exact ⟨a, Rd.of_own (hc.ownS h.own (fun x hx => Four.far h.lt (own_lt h.own hx).1 (h.off x hx))), b, c, h.ok.dn, h.ok.d8, h.ok.ns, h.ok.tn, h.ok.sn⟩
theorem StOk.scal {w : World} {s : StV} (h : StOk w s) (id ver tm cl : Int) (ca : Bool) : StOk w ⟨id, ver, tm, cl, ca, s.D, s.dl, s.dc, s.N, s.nl, s.nc, s.T, s.tl, s.tc, s.S, s.sl, s.sc⟩ := ⟨h.ds, h.nd, h.tm, h.sg, h.dn, h.d8, h.ns, h.tn, h.sn⟩
theorem four_p {S : Nat → Prop} {p : Nat} {wc w' : World} (hc : Chg (· = p) wc w') : Chg (Four S p) wc w' := hc.mono (fun x hx => .inl (.inr ⟨by omega, by omega⟩))
theorem chg_p (wc w' : World) (p j : Nat) (u : Value) (hc : Chg (fun _ => False) wc w') : Chg (· = p) wc (w'.setCell ⟨p, j, none⟩ u) := (hc.mono (fun x h => h.elim)).trans (chg_put w' p j u) (fun x hx => .inl hx)
theorem SwRel.node {S : Nat → Prop} {s s1 : StV} {p : Nat} {w wc w5 : World} (k : Int) (hN : StNew S w p s1 wc) (bP : BoxAt wc p 78 #[.int .i64 s1.id, .int .i64 s1.ver, .int .i64 s1.tm, .int .i64 s1.cl, .bool s1.ca, .slice s1.D s1.dl.length s1.dc, .slice s1.N s1.nl.length s1.nc, .slice s1.T s1.tl.length s1.tc, .slice s1.S s1.sl.length s1.sc]) (h8 : TlOk s1.tl) (hs : s1.sl.length ≤ s.sl.length) (h : NodesTurned s1 wc w5) : SwRel S s p wc (.int .i64 k) w5 := by
  obtain ⟨nl, hl, ho, hc⟩ := h
  refine ⟨k, ⟨s1.id, s1.ver, s1.tm, s1.cl, s1.ca, s1.D, s1.dl, s1.dc, s1.N, nl, s1.nc, s1.T, s1.tl, s1.tc, s1.S, s1.sl, s1.sc⟩, rfl, ?_, fun _ => ⟨fun w2 h2 => ?_, h8, Nat.le_succ_of_le hs⟩, hc.mono (fun x hx => .inl (.inr (hN.off x hx)))⟩
  · simp only [hl]
    exact bP.keep hc (fun hx => by have h1 := hN.off p hx; omega)
  · obtain ⟨a, b, c⟩ := hN.rest (fun x => In s1.N x ∨ Four S p x) w2 ((hc.mono (fun x hx => .inl (.inl hx))).trans h2 (fun x hx => .inl (.inr hx))) (fun x hx => by
      rcases hx with hx | hx | hx
      · exact .inr (own_lt hN.own hx).1
      · exact .inl hx
      · exact .inr (Nat.le_trans hN.old hx.1))
    refine ⟨a, (Rd.of_own ho).keep h2 (fun x hx => Four.far hN.lt (own_lt hN.own hx).1 (hN.off x hx)), b, c, ?_, hN.ok.d8, hN.ok.ns, hN.ok.tn, hN.ok.sn⟩
    simp only [hl]; exact hN.ok.dn
theorem size_als (w : World) (o : Obj) : (w.alloc o).heap.size = w.heap.size + 1 := Array.size_push ..
theorem own_made2s (w : World) (o : Obj) (e : TypeId) (base : Nat) (hb : base ≤ w.heap.size) : ((w.alloc o).alloc (.cells #[] e)).ownsRow base e 3 (.slice (some ⟨w.heap.size + 1, 0, none⟩) 0 0) 0 [] := by
  have h := World.ownsRow_made (base := base) (e := e) (size := 3) (w.alloc o) #[] 0 (by rw [size_als]; omega) (by decide) rfl
  rwa [size_als] at h
theorem rd_made2s (w : World) (o : Obj) (e : TypeId) (cs : Array Value) (xs : List Value) (h : cs.toList = xs) : Rd ((w.alloc o).alloc (.cells cs e)) (some ⟨w.heap.size + 1, 0, none⟩) xs := by
  have h := Rd.newRow (w.alloc o) e cs xs h
  rwa [size_als] at h
theorem SwRel.sig {S : Nat → Prop} {s s1 : StV} {p : Nat} {w wc wa w7 : World} {A : Option Addr} {sl : List Sg} {c n : Nat} (hN : StNew S w p s1 wc) (bP : BoxAt wa p 78 #[.int .i64 s1.id, .int .i64 s1.ver, .int .i64 s1.tm, .int .i64 s1.cl, .bool s1.ca, .slice s1.D s1.dl.length s1.dc, .slice s1.N s1.nl.length s1.nc, .slice s1.T s1.tl.length s1.tc, .slice s1.S s1.sl.length s1.sc]) (h8 : TlOk s1.tl) (hs : s1.sl.length ≤ s.sl.length) (hs2 : s.sl.length ≤ 1000) (hw : w.heap.size ≤ wa.heap.size) (hz : p + 3 < wa.heap.size) (hca : Chg (fun _ => False) wc wa) (hc : Chg (fun _ => False) wa w7)
    (ho : w7.ownsRow wa.heap.size 133 3 (.slice A n c) n (sgC sl)) (hn : n = sl.length) (hn2 : n ≤ s1.sl.length + 1) : SwRel S s p wc (.int .i64 0) (w7.setCell ⟨p, 8, none⟩ (.slice A n c)) := by
  subst hn
  have hP := chg_put w7 p 8 (.slice A sl.length c)
  have hd : Chg (· = p) wc (w7.setCell ⟨p, 8, none⟩ (.slice A sl.length c)) := (((hca.trans hc (fun x hx => hx.elim)).mono (fun x h => h.elim)).trans hP (fun x hx => .inl hx))
  refine ⟨0, ⟨s1.id, s1.ver, s1.tm, s1.cl, s1.ca, s1.D, s1.dl, s1.dc, s1.N, s1.nl, s1.nc, s1.T, s1.tl, s1.tc, A, sl, c⟩, rfl, ?_, fun _ => ⟨fun w2 h2 => ?_, h8, Nat.le_trans hn2 (Nat.succ_le_succ hs)⟩, hd.mono (fun x hx => .inl (.inl hx))⟩
  · have h1 := (bP.keep hc (fun h => h)).set 8 (.slice A sl.length c)
    simpa using h1
  · have hk := hN.okP ((four_p hd).trans h2 (fun x hx => .inl hx))
    refine ⟨hk.ds, hk.nd, hk.tm, ?_, hk.dn, hk.d8, hk.ns, hk.tn, by simp only; omega⟩
    exact (Rd.of_own ho).keep ((four_p hP).trans h2 (fun x hx => .inl hx)) (fun x hx => Four.far hN.lt (Nat.le_trans hw (own_lt ho hx).1) (Nat.lt_of_lt_of_le hz (own_lt ho hx).1))
theorem SwRel.tim {S : Nat → Prop} {s s1 : StV} {p : Nat} {w wc w5 : World} (k : Int) (hN : StNew S w p s1 wc) (hs : s1.sl.length ≤ s.sl.length) (hw : w.heap.size ≤ wc.heap.size) (hz : p + 3 < wc.heap.size) (h : TimersTurned s1 p wc w5) : SwRel S s p wc (.int .i64 k) w5 := by
  obtain ⟨T, tl, tc, h8, hb, hr, ho, hc⟩ := h
  refine ⟨k, ⟨s1.id, s1.ver, s1.tm, s1.cl, s1.ca, s1.D, s1.dl, s1.dc, s1.N, s1.nl, s1.nc, T, tl, tc, s1.S, s1.sl, s1.sc⟩, rfl, hb, fun _ => ⟨fun w2 h2 => ?_, h8, Nat.le_succ_of_le hs⟩, hc.mono (fun x hx => .inl (.inl hx))⟩
  have hk := hN.okP ((four_p hc).trans h2 (fun x hx => .inl hx))
  refine ⟨hk.ds, hk.nd, ?_, hk.sg, hk.dn, hk.d8, hk.ns, by have h9 := h8.1; simp only; omega, hk.sn⟩
  rcases ho with ⟨rfl, rfl⟩ | ho
  · exact hk.tm
  · exact hr.keep h2 (fun x hx => Four.far hN.lt (Nat.le_trans hw (ho x hx)) (Nat.lt_of_lt_of_le hz (ho x hx)))

end Go.Proofs.YtngfimjbgopgjaaGreatDoor
