/- Contract of a Pen's write (gen_write.py). -/
import Derived.Test.YtngfimjbgopgjaaGreatDoorStFoldAll
import Derived.Deep.RegionHeld3
namespace Go.Proofs.YtngfimjbgopgjaaGreatDoor
open Go.RowKit
set_option linter.unusedVariables false

theorem EvS.renum {w : World} {f : EvF} (h : EvS w f) (id ver tm : Int) : EvS w ⟨id, ver, tm, f.ty, f.node, f.m, f.nm, f.A, f.c, f.bs, f.D, f.dc, f.dl⟩ :=
  ⟨⟨h.rdy.nm, h.rdy.bn, h.rdy.rd, h.rdy.ds, h.rdy.dn, h.rdy.ns⟩, h.byt⟩
theorem EvS.bare (w : World) (id ver tm ty : Int) : EvS w ⟨id, ver, tm, ty, 0, 0, { data := #[] }, none, 0, [], none, 0, []⟩ :=
  ⟨⟨Nat.zero_le _, Nat.zero_le _, Rd.nil _ _, RdDf.nil _ _, Nat.zero_le _, (fun d hd => by cases hd)⟩, fun z hz => by cases hz⟩
/-- What a call of a Pen leaves. -/
def PenTo (p : Nat) (b : Int × Int × Int) (v n : Int) (w w' : World) : Prop := ∃ (out' : List EvF) (s' : StV), PenS w' p b out' s' v n ∧ Chg (· = p) w w'
def WriteGave (p : Nat) (b : Int × Int × Int) (s : StV) (v n : Int) (w : World) (e : Ending) (w' : World) : Prop :=
  ∃ (k : Int) (out' : List EvF) (s' : StV), e = .returned (.int .i64 k) ∧ PenS w' p b out' s' v n ∧ Chg (· = p) w w' ∧ (k = 0 → s.id < s'.id)
theorem WriteGave.no {p : Nat} {b : Int × Int × Int} {out : List EvF} {s : StV} {v n : Int} {w w' : World} (h : PenS w p b out s v n) (k : Int) (hk : k ≠ 0) (hc : Chg (fun _ => False) w w') : WriteGave p b s v n w (.returned (.int .i64 k)) w' :=
  ⟨k, out, s, rfl, h.keep hc, hc.mono (fun x h => h.elim), fun e => absurd e hk⟩

theorem PenS.back {w w' : World} {p : Nat} {b : Int × Int × Int} {out : List EvF} {s : StV} {v n : Int} {O : Option Addr} {oc : Nat} (h : PenS w p b out s v n) (hro : ∀ u, Chg (· = p) w u → RdEv u O out) (hb : BoxAt w' p 80 (penRow s v n O out.length oc)) (hc : Chg (· = p) w w') : PenS w' p b out s v n :=
  ⟨⟨O, oc, hb, fun u hu => hro u (hc.trans hu (fun x hx => .inl hx))⟩, fun u hu => h.st u (hc.trans hu (fun x hx => .inl hx)), h.id0, h.id2, h.tl, h.sl, h.b0, h.ch, h.yo⟩

set_option maxHeartbeats 8000000 in
set_option maxRecDepth 20000 in
theorem write_any (p : Nat) (b : Int × Int × Int) (out : List EvF) (s : StV) (v n : Int) (f : EvF) (w : World) (h : PenS w p b out s v n) (hf : ∀ u, Chg (· = p) w u → EvS u f) (hy : Yng p f) :
    Calls Tryz.prog 94 #[.pointer (some ⟨p, 0, none⟩), f.val] w (WriteGave p b s v n w) := by
  have HP := Lib.hid h
  have HF := Lib.hid hf
  obtain ⟨O, oc, hbx, hro⟩ := h.ex
  have HRO := Lib.hid hro
  have h0 := h.id0
  have h2 := h.id2
  have hsl := h.sl
  have hpl := h.lt
  clear hf h hro
  have hnx := fun (w' : World) (hc : Chg (fun _ => False) w w') => next_any s v n O out.length oc p f w' (hbx.keep hc (fun h => h)) h0 h2
  unfold EvF.val EvF.row at hnx ⊢
  unfold penRow at hbx
  obtain ⟨w1, hw1⟩ : ∃ w1, w1 = w.alloc (.cells #[.int .i64 f.id, .int .i64 f.ver, .int .i64 f.tm, .int .i64 f.ty, .int .i64 f.node, .int .i64 f.m, .string f.nm, .slice f.A f.bs.length f.c, .slice f.D f.dl.length f.dc] 32) := ⟨_, rfl⟩
  have bE : BoxAt w1 w.heap.size 32 #[.int .i64 f.id, .int .i64 f.ver, .int .i64 f.tm, .int .i64 f.ty, .int .i64 f.node, .int .i64 f.m, .string f.nm, .slice f.A f.bs.length f.c, .slice f.D f.dl.length f.dc] := by rw [hw1]; exact BoxAt.new w _ _
  have hc1 : Chg (fun _ => False) w w1 := by rw [hw1]; exact (Chg.refl _ _).alloc _
  have hnx1 := hnx w1 hc1
  clear hnx
  go_enter Tryz.func94, Tryz.ntmps94
  go_upto_region 1 with fail
  rw [← hw1]
  clear hw1
  obtain ⟨gE, hgE⟩ : ∃ gE, gE = w.heap.size := ⟨_, rfl⟩
  rw [← hgE] at bE ⊢
  have HGE := Lib.hid hgE
  clear hgE
  go_cut [5] from 13 to 16 (fun lv w' => ∃ (t : Int) (gl : Nat), lv = .slice (some ⟨gl, 0, none⟩) 1 1 ∧ w'.ownsRow w.heap.size 32 9 (.slice (some ⟨gl, 0, none⟩) 1 1) 1 (eoC [⟨s.id + 1, v, t, f.ty, f.node, f.m, f.nm, f.A, f.c, f.bs, f.D, f.dc, f.dl⟩]) ∧ Chg (fun _ => False) w w')
  case first =>
    have q0 : w1.cell? ⟨gE, 0, none⟩ = some (.int .i64 f.id) := bE.cell 0 rfl
    have q1 : w1.cell? ⟨gE, 1, none⟩ = some (.int .i64 f.ver) := bE.cell 1 rfl
    have q2 : w1.cell? ⟨gE, 2, none⟩ = some (.int .i64 f.tm) := bE.cell 2 rfl
    have q3 : w1.cell? ⟨gE, 3, none⟩ = some (.int .i64 f.ty) := bE.cell 3 rfl
    have q4 : w1.cell? ⟨gE, 4, none⟩ = some (.int .i64 f.node) := bE.cell 4 rfl
    have q5 : w1.cell? ⟨gE, 5, none⟩ = some (.int .i64 f.m) := bE.cell 5 rfl
    have q6 : w1.cell? ⟨gE, 6, none⟩ = some (.string f.nm) := bE.cell 6 rfl
    have q7 : w1.cell? ⟨gE, 7, none⟩ = some (.slice f.A f.bs.length f.c) := bE.cell 7 rfl
    have q8 : w1.cell? ⟨gE, 8, none⟩ = some (.slice f.D f.dl.length f.dc) := bE.cell 8 rfl
    go_wp2_with (go_at_call 102; go_must (refine hnx1.mono ?_; rintro e w2 ⟨⟨t, rfl⟩, hc2⟩))
    go_meet
    have hcw := hc1.trans hc2 (fun x hx => hx.elim)
    exact ⟨t, w2.heap.size, rfl, own_lit w2 w.heap.size 32 9 1 _ hcw.size (by decide) rfl, hcw.alloc _⟩
  obtain ⟨t, gl, rfl, hol, hc⟩ := hcut
  clear hnx1 bE hc1
  have hgl : w.heap.size ≤ gl ∧ gl < wc.heap.size := own_lt hol rfl
  obtain ⟨a, ha⟩ : ∃ a : EvF, a = ⟨s.id + 1, v, t, f.ty, f.node, f.m, f.nm, f.A, f.c, f.bs, f.D, f.dc, f.dl⟩ := ⟨_, rfl⟩
  have hEa : ∀ u, Chg (· = p) w u → EvS u a := fun u hu => by rw [ha]; exact (HF.out u hu).renum _ _ _
  have haid : a.id = s.id + 1 := by rw [ha]
  rw [← ha] at hol
  have HEA := Lib.hid hEa
  have HYA := Lib.hid (by rw [ha]; exact ⟨hy.a, hy.d, hy.n⟩ : Yng p a)
  clear hy
  have HAID := Lib.hid haid
  clear ha hEa haid
  have hra := Rd.of_own hol
  have hpe : p ≠ gl := by omega
  have hpe2 : gl ≠ p := by omega
  have bP := hbx.keep hc (fun h => h)
  clear hbx
  have y0 : wc.cell? ⟨gl, 0, none⟩ = some (.int .i64 a.id) := hra.cells rfl 0 _ rfl
  go_upto_region 2 with fail
  by_cases hid : 200 < a.id
  · have f1 : decide (200 < a.id) = true := by simpa using hid
    go_upto_region 3 with fail
    go_cut [6] from 17 to 25 (fun g w' => ∃ gt, g = .pointer (some ⟨gt, 0, none⟩) ∧ wc.heap.size ≤ gt ∧ BoxAt w' gt 78 #[.int .i64 s.id, .int .i64 s.ver, .int .i64 s.tm, .int .i64 s.cl, .bool s.ca, .slice s.D s.dl.length s.dc, .slice s.N s.nl.length s.nc, .slice s.T s.tl.length s.tc, .slice s.S s.sl.length s.sc] ∧ Chg (fun _ => False) wc w')
    case first =>
      have r0 : wc.cell? ⟨p, 0, none⟩ = some (.int .i64 s.id) := bP.cell 0 rfl
      have r1 : wc.cell? ⟨p, 1, none⟩ = some (.int .i64 s.ver) := bP.cell 1 rfl
      have r2 : wc.cell? ⟨p, 2, none⟩ = some (.int .i64 s.tm) := bP.cell 2 rfl
      have r3 : wc.cell? ⟨p, 3, none⟩ = some (.int .i64 s.cl) := bP.cell 3 rfl
      have r4 : wc.cell? ⟨p, 4, none⟩ = some (.bool s.ca) := bP.cell 4 rfl
      have r5 : wc.cell? ⟨p, 5, none⟩ = some (.slice s.D s.dl.length s.dc) := bP.cell 5 rfl
      have r6 : wc.cell? ⟨p, 6, none⟩ = some (.slice s.N s.nl.length s.nc) := bP.cell 6 rfl
      have r7 : wc.cell? ⟨p, 7, none⟩ = some (.slice s.T s.tl.length s.tc) := bP.cell 7 rfl
      have r8 : wc.cell? ⟨p, 8, none⟩ = some (.slice s.S s.sl.length s.sc) := bP.cell 8 rfl
      have r9 : wc.cell? ⟨p, 9, none⟩ = some (.int .i64 v) := bP.cell 9 rfl
      have r10 : wc.cell? ⟨p, 10, none⟩ = some (.int .i64 n) := bP.cell 10 rfl
      have r11 : wc.cell? ⟨p, 11, none⟩ = some (.slice O out.length oc) := bP.cell 11 rfl
      go_wp2_with fail
      go_meet
      exact ⟨wc.heap.size, rfl, Nat.le_refl _, BoxAt.new wc _ _, (Chg.refl _ _).alloc _⟩
    obtain ⟨gt, rfl, hgt, bT, hcA⟩ := hcut
    have hol2 := hcA.own hol (fun _ _ h => h)
    have hct := hc.trans hcA (fun x hx => hx.elim)
    have hlt : gl ≠ gt := by omega
    have hlt2 : gt ≠ gl := by omega
    have r0 : wc.cell? ⟨gt, 0, none⟩ = some (.int .i64 s.id) := bT.cell 0 rfl
    have z0 := bT.fz 0
    have y0 : wc.cell? ⟨gl, 0, none⟩ = some (.int .i64 a.id) := (Rd.of_own hol2).cells rfl 0 _ rfl
    have zy0 := hol2.frozenAt 0
    clear bP hol hcA hra
    go_upto_region 6 with fail
    obtain ⟨w4, hw4⟩ : ∃ w4, w4 = (wc.setCell ⟨gt, 0, none⟩ (.int .i64 1)).setCell ⟨gl, 0, none⟩ (.int .i64 2) := ⟨_, rfl⟩
    have hcT := chg_put wc gt 0 (.int .i64 1)
    have bT4 : BoxAt w4 gt 78 #[.int .i64 1, .int .i64 s.ver, .int .i64 s.tm, .int .i64 s.cl, .bool s.ca, .slice s.D s.dl.length s.dc, .slice s.N s.nl.length s.nc, .slice s.T s.tl.length s.tc, .slice s.S s.sl.length s.sc] := by rw [hw4]; exact (by simpa using bT.set 0 (.int .i64 1) : BoxAt (wc.setCell ⟨gt, 0, none⟩ (.int .i64 1)) gt 78 #[.int .i64 1, .int .i64 s.ver, .int .i64 s.tm, .int .i64 s.cl, .bool s.ca, .slice s.D s.dl.length s.dc, .slice s.N s.nl.length s.nc, .slice s.T s.tl.length s.tc, .slice s.S s.sl.length s.sc]).keep (chg_put _ gl 0 _) hlt2
    have hol4 := ((hcT.ownS hol2 (fun x hx e => by injection hx with hx; simp at hx; omega)).stored 0 (.int .i64 2)).1
    have hc4 : Chg (fun _ => False) w w4 := by rw [hw4]; exact (hct.trans hcT (fun x hx => .inr (by omega))).trans (chg_put _ gl 0 _) (fun x hx => .inr (by omega))
    rw [← hw4] at hol4 ⊢
    clear hw4 r0 z0 y0 zy0 bT hol2 hcT hct
    have hra4 := Rd.of_own hol4
    have hap := (fun (w' : World) (hw : Chg (fun _ => False) w4 w') => apply_any (fun _ => False) ⟨1, s.ver, s.tm, s.cl, s.ca, s.D, s.dl, s.dc, s.N, s.nl, s.nc, s.T, s.tl, s.tc, s.S, s.sl, s.sc⟩ ⟨2, a.ver, a.tm, a.ty, a.node, a.m, a.nm, a.A, a.c, a.bs, a.D, a.dc, a.dl⟩ w' (fun x hx => hx.elim)
      (fun u hu => (HP.out.st u (((hc4.trans hw (fun x hx => hx.elim)).trans hu (fun x hx => hx.elim)).mono (fun x h => h.elim))).scal _ _ _ _ _)
      (fun u hu => (HEA.out u (((hc4.trans hw (fun x hx => hx.elim)).trans hu (fun x hx => hx.elim)).mono (fun x h => h.elim))).renum 2 _ _)
      HP.out.tl (by simp only; omega) (by simp only; omega) (by simp only; omega))
    simp only [StV.val, StV.row, EvF.val, EvF.row] at hap
    have HAP := Lib.hid hap
    clear hap
    have hS : ∀ w', Chg (fun _ => False) w4 w' → (w'.cell? ⟨gt, 0, none⟩ = some (.int .i64 1) ∧ w'.cell? ⟨gt, 1, none⟩ = some (.int .i64 s.ver) ∧ w'.cell? ⟨gt, 2, none⟩ = some (.int .i64 s.tm) ∧ w'.cell? ⟨gt, 3, none⟩ = some (.int .i64 s.cl) ∧ w'.cell? ⟨gt, 4, none⟩ = some (.bool s.ca) ∧ w'.cell? ⟨gt, 5, none⟩ = some (.slice s.D s.dl.length s.dc) ∧ w'.cell? ⟨gt, 6, none⟩ = some (.slice s.N s.nl.length s.nc) ∧ w'.cell? ⟨gt, 7, none⟩ = some (.slice s.T s.tl.length s.tc) ∧ w'.cell? ⟨gt, 8, none⟩ = some (.slice s.S s.sl.length s.sc)) ∧ (w'.cell? ⟨gl, 0, none⟩ = some (.int .i64 2) ∧ w'.cell? ⟨gl, 1, none⟩ = some (.int .i64 a.ver) ∧ w'.cell? ⟨gl, 2, none⟩ = some (.int .i64 a.tm) ∧ w'.cell? ⟨gl, 3, none⟩ = some (.int .i64 a.ty) ∧ w'.cell? ⟨gl, 4, none⟩ = some (.int .i64 a.node) ∧ w'.cell? ⟨gl, 5, none⟩ = some (.int .i64 a.m) ∧ w'.cell? ⟨gl, 6, none⟩ = some (.string a.nm) ∧ w'.cell? ⟨gl, 7, none⟩ = some (.slice a.A a.bs.length a.c) ∧ w'.cell? ⟨gl, 8, none⟩ = some (.slice a.D a.dl.length a.dc)) := fun w' hw => ⟨⟨hw.cell_some (bT4.cell 0 rfl) (fun h => h), hw.cell_some (bT4.cell 1 rfl) (fun h => h), hw.cell_some (bT4.cell 2 rfl) (fun h => h), hw.cell_some (bT4.cell 3 rfl) (fun h => h), hw.cell_some (bT4.cell 4 rfl) (fun h => h), hw.cell_some (bT4.cell 5 rfl) (fun h => h), hw.cell_some (bT4.cell 6 rfl) (fun h => h), hw.cell_some (bT4.cell 7 rfl) (fun h => h), hw.cell_some (bT4.cell 8 rfl) (fun h => h)⟩,
      hw.cell_some (hra4.cells rfl 0 _ rfl) (fun h => h), hw.cell_some (hra4.cells rfl 1 _ rfl) (fun h => h), hw.cell_some (hra4.cells rfl 2 _ rfl) (fun h => h), hw.cell_some (hra4.cells rfl 3 _ rfl) (fun h => h), hw.cell_some (hra4.cells rfl 4 _ rfl) (fun h => h), hw.cell_some (hra4.cells rfl 5 _ rfl) (fun h => h), hw.cell_some (hra4.cells rfl 6 _ rfl) (fun h => h), hw.cell_some (hra4.cells rfl 7 _ rfl) (fun h => h), hw.cell_some (hra4.cells rfl 8 _ rfl) (fun h => h)⟩
    have HS := Lib.hid hS
    have k0 : Chg (fun _ => False) w4 w4.drew := (Chg.refl _ _).drew
    clear hS hra4 hol4 bT4
    go_cut [7, 8] from 22 to 37 (fun _ k w' => (∃ kk : Int, k = .int .i64 kk) ∧ Chg (fun _ => False) w4 w')
    case first =>
      go_region_held3 (fun w' => (w'.cell? ⟨gt, 0, none⟩ = some (.int .i64 1) ∧ w'.cell? ⟨gt, 1, none⟩ = some (.int .i64 s.ver) ∧ w'.cell? ⟨gt, 2, none⟩ = some (.int .i64 s.tm) ∧ w'.cell? ⟨gt, 3, none⟩ = some (.int .i64 s.cl) ∧ w'.cell? ⟨gt, 4, none⟩ = some (.bool s.ca) ∧ w'.cell? ⟨gt, 5, none⟩ = some (.slice s.D s.dl.length s.dc) ∧ w'.cell? ⟨gt, 6, none⟩ = some (.slice s.N s.nl.length s.nc) ∧ w'.cell? ⟨gt, 7, none⟩ = some (.slice s.T s.tl.length s.tc) ∧ w'.cell? ⟨gt, 8, none⟩ = some (.slice s.S s.sl.length s.sc)) ∧ (w'.cell? ⟨gl, 0, none⟩ = some (.int .i64 2) ∧ w'.cell? ⟨gl, 1, none⟩ = some (.int .i64 a.ver) ∧ w'.cell? ⟨gl, 2, none⟩ = some (.int .i64 a.tm) ∧ w'.cell? ⟨gl, 3, none⟩ = some (.int .i64 a.ty) ∧ w'.cell? ⟨gl, 4, none⟩ = some (.int .i64 a.node) ∧ w'.cell? ⟨gl, 5, none⟩ = some (.int .i64 a.m) ∧ w'.cell? ⟨gl, 6, none⟩ = some (.string a.nm) ∧ w'.cell? ⟨gl, 7, none⟩ = some (.slice a.A a.bs.length a.c) ∧ w'.cell? ⟨gl, 8, none⟩ = some (.slice a.D a.dl.length a.dc))) (first | with_reducible exact HS.out _ k6 | with_reducible exact HS.out _ k5 | with_reducible exact HS.out _ (k5.alloc _) | with_reducible exact HS.out _ k0 | with_reducible exact HS.out _ ((Chg.refl (fun _ => False) w4).alloc _).drew | with_reducible exact HS.out _ (k0.alloc _)) (first
        | (go_at_call 92; (with_reducible refine (HAP.out _ ((Chg.refl (fun _ => False) w4).alloc _).drew).mono ?_); rintro e w5 ⟨⟨xid, xver, xtm, xcl, xca, xD, xdl, xdc, xN, xnl, xnc, xT, xtl, xtc, xS, xsl, xsc⟩, k, he, hc5, hno⟩; simp only [StV.val, StV.row] at he; subst he; clear hno; have k5 := ((Chg.refl (fun _ => False) w4).alloc _).trans hc5.undrew (fun x hx => hx.elim); have b7 := (BoxAt.new w4 78 #[.int .i64 0, .int .i64 0, .int .i64 0, .int .i64 0, .bool false, .slice none 0 0, .slice none 0 0, .slice none 0 0, .slice none 0 0]).keep hc5.undrew (fun h => h); have t0 : w5.cell? ⟨w4.heap.size, 0, none⟩ = some (.int .i64 0) := b7.cell 0 rfl; have zt0 := b7.fz 0; have t1 : w5.cell? ⟨w4.heap.size, 1, none⟩ = some (.int .i64 0) := b7.cell 1 rfl; have zt1 := b7.fz 1; have t2 : w5.cell? ⟨w4.heap.size, 2, none⟩ = some (.int .i64 0) := b7.cell 2 rfl; have zt2 := b7.fz 2; have t3 : w5.cell? ⟨w4.heap.size, 3, none⟩ = some (.int .i64 0) := b7.cell 3 rfl; have zt3 := b7.fz 3; have t4 : w5.cell? ⟨w4.heap.size, 4, none⟩ = some (.bool false) := b7.cell 4 rfl; have zt4 := b7.fz 4; have t5 : w5.cell? ⟨w4.heap.size, 5, none⟩ = some (.slice none 0 0) := b7.cell 5 rfl; have zt5 := b7.fz 5; have t6 : w5.cell? ⟨w4.heap.size, 6, none⟩ = some (.slice none 0 0) := b7.cell 6 rfl; have zt6 := b7.fz 6; have t7 : w5.cell? ⟨w4.heap.size, 7, none⟩ = some (.slice none 0 0) := b7.cell 7 rfl; have zt7 := b7.fz 7; have t8 : w5.cell? ⟨w4.heap.size, 8, none⟩ = some (.slice none 0 0) := b7.cell 8 rfl; have zt8 := b7.fz 8; have k6 := k5.trans (chg_set9 w5 w4.heap.size (.int .i64 xid) (.int .i64 xver) (.int .i64 xtm) (.int .i64 xcl) (.bool xca) (.slice xD xdl.length xdc) (.slice xN xnl.length xnc) (.slice xT xtl.length xtc) (.slice xS xsl.length xsc)) (fun x hx => .inr (Nat.le_of_eq hx.symm)))
        | (go_at_call 92; (with_reducible refine (HAP.out _ k0).mono ?_); rintro e w5 ⟨⟨xid, xver, xtm, xcl, xca, xD, xdl, xdc, xN, xnl, xnc, xT, xtl, xtc, xS, xsl, xsc⟩, k, he, hc5, hno⟩; simp only [StV.val, StV.row] at he; subst he; clear hno; have k5 := k0.trans hc5 (fun x hx => hx.elim))
        | fail)
      all_goals
        go_wp2_with fail
        go_meet
        exact ⟨⟨_, rfl⟩, by first | exact k6 | exact k5.alloc _ | exact k5⟩
    obtain ⟨⟨k, rfl⟩, hcX⟩ := hcut
    have hc5 := hc4.trans hcX (fun x hx => hx.elim)
    by_cases hk : k = 0
    · have f1 : (k != 0) = false := by simpa using hk
      have f2 : decide (k = 0) = true := by simpa using hk
      clear hk
      go_wp2_with fail
      go_ret
      exact WriteGave.no HP.out 2 (by decide) hc5
    · have f1 : (k != 0) = true := by simpa using hk
      have f2 : decide (k = 0) = false := by simpa using hk
      have HKK := Lib.hid hk
      clear hk
      go_wp2_with fail
      go_ret
      exact WriteGave.no HP.out k HKK.out hc5
  · have f1 : decide (200 < a.id) = false := by simpa using hid
    have hid200 : a.id ≤ 200 := by omega
    go_upto_region 10 with fail
    have hap := (fun (w' : World) (hw : Chg (fun _ => False) wc w') => apply_any (fun x => x = p ∨ (w.heap.size ≤ x ∧ x < w'.heap.size)) s a w' (fun x hx => hx.elim (fun e => by rw [e]; exact Nat.lt_of_lt_of_le hpl (hc.trans hw (fun x hx => hx.elim)).size) (fun e => e.2))
      (fun u hu => HP.out.st u (((hc.trans hw (fun x hx => hx.elim)).mono (fun x h => h.elim)).trans hu (fun x hx => hx.elim .inl (fun e => .inr e.1))))
      (fun u hu => HEA.out u (((hc.trans hw (fun x hx => hx.elim)).mono (fun x h => h.elim)).trans hu (fun x hx => hx.elim .inl (fun e => .inr e.1))))
      HP.out.tl (by omega) h0 h2)
    simp only [StV.val, StV.row, EvF.val, EvF.row] at hap
    have HAP := Lib.hid hap
    clear hap
    have hS : ∀ w', Chg (fun _ => False) wc w' → (w'.cell? ⟨p, 0, none⟩ = some (.int .i64 s.id) ∧ w'.cell? ⟨p, 1, none⟩ = some (.int .i64 s.ver) ∧ w'.cell? ⟨p, 2, none⟩ = some (.int .i64 s.tm) ∧ w'.cell? ⟨p, 3, none⟩ = some (.int .i64 s.cl) ∧ w'.cell? ⟨p, 4, none⟩ = some (.bool s.ca) ∧ w'.cell? ⟨p, 5, none⟩ = some (.slice s.D s.dl.length s.dc) ∧ w'.cell? ⟨p, 6, none⟩ = some (.slice s.N s.nl.length s.nc) ∧ w'.cell? ⟨p, 7, none⟩ = some (.slice s.T s.tl.length s.tc) ∧ w'.cell? ⟨p, 8, none⟩ = some (.slice s.S s.sl.length s.sc)) ∧ (w'.cell? ⟨gl, 0, none⟩ = some (.int .i64 a.id) ∧ w'.cell? ⟨gl, 1, none⟩ = some (.int .i64 a.ver) ∧ w'.cell? ⟨gl, 2, none⟩ = some (.int .i64 a.tm) ∧ w'.cell? ⟨gl, 3, none⟩ = some (.int .i64 a.ty) ∧ w'.cell? ⟨gl, 4, none⟩ = some (.int .i64 a.node) ∧ w'.cell? ⟨gl, 5, none⟩ = some (.int .i64 a.m) ∧ w'.cell? ⟨gl, 6, none⟩ = some (.string a.nm) ∧ w'.cell? ⟨gl, 7, none⟩ = some (.slice a.A a.bs.length a.c) ∧ w'.cell? ⟨gl, 8, none⟩ = some (.slice a.D a.dl.length a.dc)) := fun w' hw => ⟨⟨hw.cell_some (bP.cell 0 rfl) (fun h => h), hw.cell_some (bP.cell 1 rfl) (fun h => h), hw.cell_some (bP.cell 2 rfl) (fun h => h), hw.cell_some (bP.cell 3 rfl) (fun h => h), hw.cell_some (bP.cell 4 rfl) (fun h => h), hw.cell_some (bP.cell 5 rfl) (fun h => h), hw.cell_some (bP.cell 6 rfl) (fun h => h), hw.cell_some (bP.cell 7 rfl) (fun h => h), hw.cell_some (bP.cell 8 rfl) (fun h => h)⟩,
      hw.cell_some (hra.cells rfl 0 _ rfl) (fun h => h), hw.cell_some (hra.cells rfl 1 _ rfl) (fun h => h), hw.cell_some (hra.cells rfl 2 _ rfl) (fun h => h), hw.cell_some (hra.cells rfl 3 _ rfl) (fun h => h), hw.cell_some (hra.cells rfl 4 _ rfl) (fun h => h), hw.cell_some (hra.cells rfl 5 _ rfl) (fun h => h), hw.cell_some (hra.cells rfl 6 _ rfl) (fun h => h), hw.cell_some (hra.cells rfl 7 _ rfl) (fun h => h), hw.cell_some (hra.cells rfl 8 _ rfl) (fun h => h)⟩
    have HS := Lib.hid hS
    have k0 : Chg (fun _ => False) wc wc.drew := (Chg.refl _ _).drew
    clear hS hra y0
    go_cut [9, 10] from 17 to 51 (fun gv kv w' => ∃ (g9 : Nat) (s1 : StV) (k : Int), gv = .pointer (some ⟨g9, 0, none⟩) ∧ kv = .int .i64 k ∧ wc.heap.size ≤ g9 ∧ BoxAt w' g9 78 #[.int .i64 s1.id, .int .i64 s1.ver, .int .i64 s1.tm, .int .i64 s1.cl, .bool s1.ca, .slice s1.D s1.dl.length s1.dc, .slice s1.N s1.nl.length s1.nc, .slice s1.T s1.tl.length s1.tc, .slice s1.S s1.sl.length s1.sc] ∧ Chg (fun _ => False) wc w' ∧
      (k = 0 → (∀ u, Chg (fun x => x = p ∨ x = g9 ∨ x = gl) w' u → StOk u s1) ∧ TlOk s1.tl ∧ s1.sl.length ≤ s.sl.length + 1 ∧ a.right = true ∧ a.id = s.id + 1 ∧ s.ver ≤ a.ver ∧ s.tm ≤ a.tm ∧ s1.id = a.id ∧ s1.ver = a.ver ∧ s1.tm = a.tm))
    case first =>
      clear hol bP
      go_region_held3 (fun w' => (w'.cell? ⟨p, 0, none⟩ = some (.int .i64 s.id) ∧ w'.cell? ⟨p, 1, none⟩ = some (.int .i64 s.ver) ∧ w'.cell? ⟨p, 2, none⟩ = some (.int .i64 s.tm) ∧ w'.cell? ⟨p, 3, none⟩ = some (.int .i64 s.cl) ∧ w'.cell? ⟨p, 4, none⟩ = some (.bool s.ca) ∧ w'.cell? ⟨p, 5, none⟩ = some (.slice s.D s.dl.length s.dc) ∧ w'.cell? ⟨p, 6, none⟩ = some (.slice s.N s.nl.length s.nc) ∧ w'.cell? ⟨p, 7, none⟩ = some (.slice s.T s.tl.length s.tc) ∧ w'.cell? ⟨p, 8, none⟩ = some (.slice s.S s.sl.length s.sc)) ∧ (w'.cell? ⟨gl, 0, none⟩ = some (.int .i64 a.id) ∧ w'.cell? ⟨gl, 1, none⟩ = some (.int .i64 a.ver) ∧ w'.cell? ⟨gl, 2, none⟩ = some (.int .i64 a.tm) ∧ w'.cell? ⟨gl, 3, none⟩ = some (.int .i64 a.ty) ∧ w'.cell? ⟨gl, 4, none⟩ = some (.int .i64 a.node) ∧ w'.cell? ⟨gl, 5, none⟩ = some (.int .i64 a.m) ∧ w'.cell? ⟨gl, 6, none⟩ = some (.string a.nm) ∧ w'.cell? ⟨gl, 7, none⟩ = some (.slice a.A a.bs.length a.c) ∧ w'.cell? ⟨gl, 8, none⟩ = some (.slice a.D a.dl.length a.dc))) (first | with_reducible exact HS.out _ k6 | with_reducible exact HS.out _ k5 | with_reducible exact HS.out _ (k5.alloc _) | with_reducible exact HS.out _ k0 | with_reducible exact HS.out _ ((Chg.refl (fun _ => False) wc).alloc _).drew | with_reducible exact HS.out _ (k0.alloc _)) (first
        | (go_at_call 92; (with_reducible refine (HAP.out _ ((Chg.refl (fun _ => False) wc).alloc _).drew).mono ?_); rintro e w5 ⟨⟨xid, xver, xtm, xcl, xca, xD, xdl, xdc, xN, xnl, xnc, xT, xtl, xtc, xS, xsl, xsc⟩, k, he, hc5, hok⟩; simp only [StV.val, StV.row] at he; subst he; have HOKA := Lib.hid hok; clear hok; have k5 := ((Chg.refl (fun _ => False) wc).alloc _).trans hc5.undrew (fun x hx => hx.elim); have b7 := (BoxAt.new wc 78 #[.int .i64 0, .int .i64 0, .int .i64 0, .int .i64 0, .bool false, .slice none 0 0, .slice none 0 0, .slice none 0 0, .slice none 0 0]).keep hc5.undrew (fun h => h); have t0 : w5.cell? ⟨wc.heap.size, 0, none⟩ = some (.int .i64 0) := b7.cell 0 rfl; have zt0 := b7.fz 0; have t1 : w5.cell? ⟨wc.heap.size, 1, none⟩ = some (.int .i64 0) := b7.cell 1 rfl; have zt1 := b7.fz 1; have t2 : w5.cell? ⟨wc.heap.size, 2, none⟩ = some (.int .i64 0) := b7.cell 2 rfl; have zt2 := b7.fz 2; have t3 : w5.cell? ⟨wc.heap.size, 3, none⟩ = some (.int .i64 0) := b7.cell 3 rfl; have zt3 := b7.fz 3; have t4 : w5.cell? ⟨wc.heap.size, 4, none⟩ = some (.bool false) := b7.cell 4 rfl; have zt4 := b7.fz 4; have t5 : w5.cell? ⟨wc.heap.size, 5, none⟩ = some (.slice none 0 0) := b7.cell 5 rfl; have zt5 := b7.fz 5; have t6 : w5.cell? ⟨wc.heap.size, 6, none⟩ = some (.slice none 0 0) := b7.cell 6 rfl; have zt6 := b7.fz 6; have t7 : w5.cell? ⟨wc.heap.size, 7, none⟩ = some (.slice none 0 0) := b7.cell 7 rfl; have zt7 := b7.fz 7; have t8 : w5.cell? ⟨wc.heap.size, 8, none⟩ = some (.slice none 0 0) := b7.cell 8 rfl; have zt8 := b7.fz 8; have k6 := k5.trans (chg_set9 w5 wc.heap.size (.int .i64 xid) (.int .i64 xver) (.int .i64 xtm) (.int .i64 xcl) (.bool xca) (.slice xD xdl.length xdc) (.slice xN xnl.length xnc) (.slice xT xtl.length xtc) (.slice xS xsl.length xsc)) (fun x hx => .inr (Nat.le_of_eq hx.symm)))
        | (go_at_call 92; (with_reducible refine (HAP.out _ k0).mono ?_); rintro e w5 ⟨⟨xid, xver, xtm, xcl, xca, xD, xdl, xdc, xN, xnl, xnc, xT, xtl, xtc, xS, xsl, xsc⟩, k, he, hc5, hok⟩; simp only [StV.val, StV.row] at he; subst he; have HOKB := Lib.hid hok; clear hok; have k5 := k0.trans hc5 (fun x hx => hx.elim))
        | fail)
      all_goals
        go_wp2_with fail
        go_meet
        first
        | (refine ⟨wc.heap.size, ⟨xid, xver, xtm, xcl, xca, xD, xdl, xdc, xN, xnl, xnc, xT, xtl, xtc, xS, xsl, xsc⟩, k, rfl, rfl, Nat.le_refl _, BoxAt.set9 b7 _ _ _ _ _ _ _ _ _, k6, fun hk => ?_⟩
           obtain ⟨j1, j2, j3, j4, j5, j6, j7, j8, j9, j10⟩ := HOKA.out hk
           exact ⟨fun u hu => j1 u (((chg_set9 w5 wc.heap.size (.int .i64 xid) (.int .i64 xver) (.int .i64 xtm) (.int .i64 xcl) (.bool xca) (.slice xD xdl.length xdc) (.slice xN xnl.length xnc) (.slice xT xtl.length xtc) (.slice xS xsl.length xsc)).mono (T := fun x => x = p ∨ (w.heap.size ≤ x ∧ x < (wc.alloc (.cells #[.int .i64 0, .int .i64 0, .int .i64 0, .int .i64 0, .bool false, .slice none 0 0, .slice none 0 0, .slice none 0 0, .slice none 0 0] 78)).drew.heap.size)) (fun x hx => .inl (.inr ⟨by rw [hx]; exact hc.size, by rw [hx]; exact (BoxAt.new wc 78 #[.int .i64 0, .int .i64 0, .int .i64 0, .int .i64 0, .bool false, .slice none 0 0, .slice none 0 0, .slice none 0 0, .slice none 0 0]).lt⟩))).trans hu (fun x hx => .inl (hx.elim .inl (fun e => e.elim (fun e => .inr ⟨by rw [e]; exact hc.size, by rw [e]; exact (BoxAt.new wc 78 #[.int .i64 0, .int .i64 0, .int .i64 0, .int .i64 0, .bool false, .slice none 0 0, .slice none 0 0, .slice none 0 0, .slice none 0 0]).lt⟩) (fun e => .inr ⟨by rw [e]; exact hgl.1, by rw [e]; exact Nat.lt_of_lt_of_le hgl.2 ((Chg.refl (fun _ => False) wc).alloc _).size⟩))))), j2, j3, j4, j5, j6, j7, j8, j9, j10⟩)
        | (refine ⟨w5.heap.size, ⟨xid, xver, xtm, xcl, xca, xD, xdl, xdc, xN, xnl, xnc, xT, xtl, xtc, xS, xsl, xsc⟩, k, rfl, rfl, k5.size, BoxAt.new w5 _ _, k5.alloc _, fun hk => ?_⟩
           obtain ⟨j1, j2, j3, j4, j5, j6, j7, j8, j9, j10⟩ := HOKB.out hk
           exact ⟨fun u hu => j1 u (((Chg.refl (fun x => x = p ∨ (w.heap.size ≤ x ∧ x < wc.drew.heap.size)) w5).alloc _).trans hu (fun x hx => hx.elim (fun e => .inl (.inl e)) (fun e => e.elim (fun e => .inr (Nat.le_of_eq e.symm)) (fun e => .inl (.inr ⟨by rw [e]; exact hgl.1, by rw [e]; exact hgl.2⟩))))), j2, j3, j4, j5, j6, j7, j8, j9, j10⟩)
    obtain ⟨g9, s1, k, rfl, rfl, hg9, b9, hcA, hok⟩ := hcut
    have hc2 := hc.trans hcA (fun x hx => hx.elim)
    by_cases hk : k = 0
    rotate_left
    · have f1 : (k != 0) = true := by simpa using hk
      have f2 : decide (k = 0) = false := by simpa using hk
      have HKK := Lib.hid hk
      clear hk hok
      go_wp2_with fail
      go_ret
      exact WriteGave.no HP.out k HKK.out hc2
    subst hk
    obtain ⟨hk1, hk2, hk3, hk4, hk5, hk6, hk7, hk8, hk9, hk10⟩ := hok rfl
    have HK1 := Lib.hid hk1
    have HK2 := Lib.hid hk2
    have HCH := Lib.hid (show Chain (s.id, s.ver, s.tm) [a] (s1.id, s1.ver, s1.tm) from ⟨⟨hk4, hk5, hk6, hk7⟩, by rw [hk8, hk9, hk10]; rfl⟩)
    have HS1ID := Lib.hid (show s1.id = s.id + 1 by omega)
    have hol2 := hcA.own hol (fun _ _ h => h)
    have bP2 := bP.keep hcA (fun h => h)
    have hcs := hcA.size
    clear hok hk1 hk2 hk4 hk5 hk6 hk7 hk8 hk9 hk10 hol bP hcA hc HS HAP k0
    obtain ⟨kE, hkE⟩ : ∃ kE : Nat, kE = 0 := ⟨0, rfl⟩
    clear hkE kE
    go_upto_region 13 with fail
    have hen := ending_any s1 wc (HK1.out wc (Chg.refl _ _))
    simp only [StV.val, StV.row] at hen
    go_cut [11] from 17 to 56 (fun v' w' => (∃ kE : Int, v' = .int .i64 kE) ∧ Chg (fun _ => False) wc w')
    case first =>
      have r0 : wc.cell? ⟨g9, 0, none⟩ = some (.int .i64 s1.id) := b9.cell 0 rfl
      have r1 : wc.cell? ⟨g9, 1, none⟩ = some (.int .i64 s1.ver) := b9.cell 1 rfl
      have r2 : wc.cell? ⟨g9, 2, none⟩ = some (.int .i64 s1.tm) := b9.cell 2 rfl
      have r3 : wc.cell? ⟨g9, 3, none⟩ = some (.int .i64 s1.cl) := b9.cell 3 rfl
      have r4 : wc.cell? ⟨g9, 4, none⟩ = some (.bool s1.ca) := b9.cell 4 rfl
      have r5 : wc.cell? ⟨g9, 5, none⟩ = some (.slice s1.D s1.dl.length s1.dc) := b9.cell 5 rfl
      have r6 : wc.cell? ⟨g9, 6, none⟩ = some (.slice s1.N s1.nl.length s1.nc) := b9.cell 6 rfl
      have r7 : wc.cell? ⟨g9, 7, none⟩ = some (.slice s1.T s1.tl.length s1.tc) := b9.cell 7 rfl
      have r8 : wc.cell? ⟨g9, 8, none⟩ = some (.slice s1.S s1.sl.length s1.sc) := b9.cell 8 rfl
      go_wp2_with (go_at_call 103; go_must ((with_reducible refine hen.mono ?_); rintro e w2 ⟨⟨kE, rfl⟩, hc3⟩))
      go_meet
      exact ⟨⟨_, rfl⟩, hc3⟩
    obtain ⟨⟨kE, rfl⟩, hcX⟩ := hcut
    have hc3 := hc2.trans hcX (fun x hx => hx.elim)
    have b93 := b9.keep hcX (fun h => h)
    have bP3 := bP2.keep hcX (fun h => h)
    have hol3 := hcX.own hol2 (fun _ _ h => h)
    have HK3 := Lib.hid (fun (u : World) (hu : Chg (fun x => x = p ∨ x = g9 ∨ x = gl) wc u) => HK1.out u ((hcX.mono (fun x h => h.elim)).trans hu (fun x hx => .inl hx)))
    have hcs3 := hcX.size
    clear hen b9 bP2 hol2 hcX hc2 HK1
    go_upto_if 58 with fail
    go_cut [5, 10] from 12 to 93 (fun lv _ w' => ∃ (A : Option Addr) (lc : Nat) (lst : List EvF) (s2 : StV), lv = .slice A lst.length lc ∧ w'.ownsRow w.heap.size 32 9 (.slice A lst.length lc) lst.length (eoC lst) ∧ BoxAt w' g9 78 #[.int .i64 s2.id, .int .i64 s2.ver, .int .i64 s2.tm, .int .i64 s2.cl, .bool s2.ca, .slice s2.D s2.dl.length s2.dc, .slice s2.N s2.nl.length s2.nc, .slice s2.T s2.tl.length s2.tc, .slice s2.S s2.sl.length s2.sc] ∧ BoxAt w' p 80 #[.int .i64 s.id, .int .i64 s.ver, .int .i64 s.tm, .int .i64 s.cl, .bool s.ca, .slice s.D s.dl.length s.dc, .slice s.N s.nl.length s.nc, .slice s.T s.tl.length s.tc, .slice s.S s.sl.length s.sc, .int .i64 v, .int .i64 n, .slice O out.length oc] ∧ (∀ u, Chg (fun x => x = p ∨ x = g9) w' u → StOk u s2) ∧ TlOk s2.tl ∧ (s2.sl.length : Int) ≤ s2.id ∧ s.id < s2.id ∧ Chain (s.id, s.ver, s.tm) lst (s2.id, s2.ver, s2.tm) ∧ (∀ x ∈ lst, (∀ u, Chg (· = p) w u → EvS u x) ∧ Yng p x) ∧ Chg (· = p) w w')
    case first =>
      by_cases hkE : kE = 0
      · have f3 : (kE != 0) = false := by simpa using hkE
        have f4 : decide (kE = 0) = true := by simpa using hkE
        clear hkE
        go_wp2_with fail
        go_meet
        have hs1id := HS1ID.out
        exact ⟨_, _, [a], s1, rfl, hol3, b93, bP3, (fun u hu => HK3.out u (hu.mono (fun x hx => .inl (hx.elim .inl (fun e => .inr (.inl e)))))), HK2.out, by omega, by omega, HCH.out, (fun x hx => by simp only [List.mem_singleton] at hx; rw [hx]; exact ⟨HEA.out, HYA.out⟩), hc3.mono (fun x h => h.elim)⟩
      · have f3 : (kE != 0) = true := by simpa using hkE
        have f4 : decide (kE = 0) = false := by simpa using hkE
        have HKE := Lib.hid hkE
        clear hkE
        have hpg9 : p ≠ g9 := by have := hc3.size; have := hgl.2; omega
        have hg9p : g9 ≠ p := fun e => hpg9 e.symm
        have hg9w : w.heap.size ≤ g9 := by omega
        have hlg9 : gl ≠ g9 := by omega
        have r0 : wc.cell? ⟨p, 0, none⟩ = some (.int .i64 s.id) := bP3.cell 0 rfl
        have r1 : wc.cell? ⟨p, 1, none⟩ = some (.int .i64 s.ver) := bP3.cell 1 rfl
        have r2 : wc.cell? ⟨p, 2, none⟩ = some (.int .i64 s.tm) := bP3.cell 2 rfl
        have r3 : wc.cell? ⟨p, 3, none⟩ = some (.int .i64 s.cl) := bP3.cell 3 rfl
        have r4 : wc.cell? ⟨p, 4, none⟩ = some (.bool s.ca) := bP3.cell 4 rfl
        have r5 : wc.cell? ⟨p, 5, none⟩ = some (.slice s.D s.dl.length s.dc) := bP3.cell 5 rfl
        have r6 : wc.cell? ⟨p, 6, none⟩ = some (.slice s.N s.nl.length s.nc) := bP3.cell 6 rfl
        have r7 : wc.cell? ⟨p, 7, none⟩ = some (.slice s.T s.tl.length s.tc) := bP3.cell 7 rfl
        have r8 : wc.cell? ⟨p, 8, none⟩ = some (.slice s.S s.sl.length s.sc) := bP3.cell 8 rfl
        go_upto_region 16 with fail
        obtain ⟨gw, hgw⟩ : ∃ gw, gw = wc.heap.size := ⟨_, rfl⟩
        obtain ⟨wA, hwA⟩ : ∃ wA, wA = wc.alloc (.cells #[.int .i64 s.id, .int .i64 s.ver, .int .i64 s.tm, .int .i64 s.cl, .bool s.ca, .slice s.D s.dl.length s.dc, .slice s.N s.nl.length s.nc, .slice s.T s.tl.length s.tc, .slice s.S s.sl.length s.sc] 78) := ⟨_, rfl⟩
        have bW : BoxAt wA gw 78 #[.int .i64 s.id, .int .i64 s.ver, .int .i64 s.tm, .int .i64 s.cl, .bool s.ca, .slice s.D s.dl.length s.dc, .slice s.N s.nl.length s.nc, .slice s.T s.tl.length s.tc, .slice s.S s.sl.length s.sc] := by rw [hwA, hgw]; exact BoxAt.new wc _ _
        have hcA : Chg (fun _ => False) wc wA := by rw [hwA]; exact (Chg.refl _ _).alloc _
        have hpgw : p ≠ gw := by have := bP3.lt; omega
        have hgwp : gw ≠ p := fun e => hpgw e.symm
        have hglw : gl ≠ gw := by omega
        have hwgw : w.heap.size ≤ gw := by rw [hgw]; exact hc3.size
        rw [← hgw, ← hwA]
        clear hgw hwA r0 r1 r2 r3 r4 r5 r6 r7 r8
        have b9A := b93.keep hcA (fun h => h)
        have bPA := bP3.keep hcA (fun h => h)
        have holA := hcA.own hol3 (fun _ _ h => h)
        have hcwA := hc3.trans hcA (fun x hx => hx.elim)
        have t0 : wA.cell? ⟨g9, 0, none⟩ = some (.int .i64 s1.id) := b9A.cell 0 rfl
        have t1 : wA.cell? ⟨g9, 1, none⟩ = some (.int .i64 s1.ver) := b9A.cell 1 rfl
        have t2 : wA.cell? ⟨g9, 2, none⟩ = some (.int .i64 s1.tm) := b9A.cell 2 rfl
        have t3 : wA.cell? ⟨g9, 3, none⟩ = some (.int .i64 s1.cl) := b9A.cell 3 rfl
        have t4 : wA.cell? ⟨g9, 4, none⟩ = some (.bool s1.ca) := b9A.cell 4 rfl
        have t5 : wA.cell? ⟨g9, 5, none⟩ = some (.slice s1.D s1.dl.length s1.dc) := b9A.cell 5 rfl
        have t6 : wA.cell? ⟨g9, 6, none⟩ = some (.slice s1.N s1.nl.length s1.nc) := b9A.cell 6 rfl
        have t7 : wA.cell? ⟨g9, 7, none⟩ = some (.slice s1.T s1.tl.length s1.tc) := b9A.cell 7 rfl
        have t8 : wA.cell? ⟨g9, 8, none⟩ = some (.slice s1.S s1.sl.length s1.sc) := b9A.cell 8 rfl
        have q0 : wA.cell? ⟨p, 0, none⟩ = some (.int .i64 s.id) := bPA.cell 0 rfl
        have q1 : wA.cell? ⟨p, 1, none⟩ = some (.int .i64 s.ver) := bPA.cell 1 rfl
        have q2 : wA.cell? ⟨p, 2, none⟩ = some (.int .i64 s.tm) := bPA.cell 2 rfl
        have q3 : wA.cell? ⟨p, 3, none⟩ = some (.int .i64 s.cl) := bPA.cell 3 rfl
        have q4 : wA.cell? ⟨p, 4, none⟩ = some (.bool s.ca) := bPA.cell 4 rfl
        have q5 : wA.cell? ⟨p, 5, none⟩ = some (.slice s.D s.dl.length s.dc) := bPA.cell 5 rfl
        have q6 : wA.cell? ⟨p, 6, none⟩ = some (.slice s.N s.nl.length s.nc) := bPA.cell 6 rfl
        have q7 : wA.cell? ⟨p, 7, none⟩ = some (.slice s.T s.tl.length s.tc) := bPA.cell 7 rfl
        have q8 : wA.cell? ⟨p, 8, none⟩ = some (.slice s.S s.sl.length s.sc) := bPA.cell 8 rfl
        have z0 := bPA.fz 0
        have z1 := bPA.fz 1
        have z2 := bPA.fz 2
        have z3 := bPA.fz 3
        have z4 := bPA.fz 4
        have z5 := bPA.fz 5
        have z6 := bPA.fz 6
        have z7 := bPA.fz 7
        have z8 := bPA.fz 8
        go_upto_region 17 with fail
        obtain ⟨wB, hwB⟩ : ∃ wB, wB = (((((((((wA.setCell ⟨p, 0, none⟩ (.int .i64 s1.id)).setCell ⟨p, 1, none⟩ (.int .i64 s1.ver)).setCell ⟨p, 2, none⟩ (.int .i64 s1.tm)).setCell ⟨p, 3, none⟩ (.int .i64 s1.cl)).setCell ⟨p, 4, none⟩ (.bool s1.ca)).setCell ⟨p, 5, none⟩ (.slice s1.D s1.dl.length s1.dc)).setCell ⟨p, 6, none⟩ (.slice s1.N s1.nl.length s1.nc)).setCell ⟨p, 7, none⟩ (.slice s1.T s1.tl.length s1.tc)).setCell ⟨p, 8, none⟩ (.slice s1.S s1.sl.length s1.sc)) := ⟨_, rfl⟩
        have bPB : BoxAt wB p 80 #[.int .i64 s1.id, .int .i64 s1.ver, .int .i64 s1.tm, .int .i64 s1.cl, .bool s1.ca, .slice s1.D s1.dl.length s1.dc, .slice s1.N s1.nl.length s1.nc, .slice s1.T s1.tl.length s1.tc, .slice s1.S s1.sl.length s1.sc, .int .i64 v, .int .i64 n, .slice O out.length oc] := by rw [hwB]; exact BoxAt.set9of12 bPA _ _ _ _ _ _ _ _ _
        have hcB : Chg (· = p) wA wB := by rw [hwB]; exact chg_set9 _ _ _ _ _ _ _ _ _ _ _
        rw [← hwB]
        clear hwB t0 t1 t2 t3 t4 t5 t6 t7 t8 q0 q1 q2 q3 q4 q5 q6 q7 q8 z0 z1 z2 z3 z4 z5 z6 z7 z8
        have b9B := b9A.keep hcB hg9p
        have bWB := bW.keep hcB hgwp
        have holB := hcB.ownS holA (fun x hx e => by injection hx with hx; simp at hx; omega)
        have HKB := Lib.hid (fun (u : World) (hu : Chg (fun x => x = p ∨ x = g9 ∨ x = gl) wB u) => HK3.out u ((((hcA.mono (T := fun x => x = p ∨ x = g9 ∨ x = gl) (fun x h => h.elim)).trans hcB (fun x hx => .inl (.inl hx))).trans hu (fun x hx => .inl hx))))
        have hcwB : Chg (· = p) w wB := (hcwA.mono (fun x h => h.elim)).trans hcB (fun x hx => .inl hx)
        have hs1id := HS1ID.out
        have haid := HAID.out
        have hnx := next_any s1 v n O out.length oc p ⟨0, 0, 0, kE, 0, 0, { data := #[] }, none, 0, [], none, 0, []⟩ wB bPB (by omega) (by omega)
        simp only [EvF.val, EvF.row, List.length_nil] at hnx
        clear bPA b9A holA bW hs1id haid
        go_cut [5] from 57 to 73 (fun lv w' => ∃ (t2 : Int) (A : Option Addr) (lc : Nat), lv = .slice A 2 lc ∧ w'.ownsRow w.heap.size 32 9 (.slice A 2 lc) 2 (eoC ([a] ++ [⟨s1.id + 1, v, t2, kE, 0, 0, { data := #[] }, none, 0, [], none, 0, []⟩])) ∧ Chg (· = gl) wB w' ∧ ∀ x, In A x → x = gl ∨ wB.heap.size ≤ x)
        case first =>
          obtain ⟨i0, hi, hz0, hz1, hz2⟩ := info_parts evInfo
          have hl1 : 1 + 1 ≤ maxLen := by decide
          have hl2 : (1 + 1) * 112 ≤ 140737488355328 := by decide
          go_wp2_with (first
            | (at_builtin; refine wpList_append_rd _ rfl (.tmp 67) (.tmp 72) 27 rfl w.heap.size 32 i0 _ 9 112 Tryz.underlying27 hi hz0 hz1 hz2 rfl (by decide) (some ⟨gl, 0, none⟩) 1 1 (eoC [a]) rfl (World.ownsRow.alloc (hcN.own holB (fun _ _ h => h)) _) (some ⟨wN.heap.size, 0, none⟩) 1 1 (eoC [⟨s1.id + 1, v, t2, kE, 0, 0, { data := #[] }, none, 0, [], none, 0, []⟩]) rfl rfl (Rd.newRow wN _ _ _ rfl) (eoC_one _) hl1 hl2 (by have h1 := hcwB.size; have h2 := hcN.size; simp; omega) ?_; intro A9 c9 w9 hown9 hg9' hb9)
            | (go_at_call 102; (with_reducible refine hnx.mono ?_); rintro e wN ⟨⟨t2, rfl⟩, hcN⟩))
          go_meet
          rw [← eoC_app] at hown9
          refine ⟨t2, A9, c9, rfl, hown9, ?_, fun x hx => ?_⟩
          · exact ((hcN.alloc _).mono (T := (· = gl)) (fun x h => h.elim)).trans hg9' (fun x hx => .inl (by injection hx with hx; exact hx.symm))
          · rcases hb9 with hb | hb
            · rw [show In A9 x = (blk A9 = some x) from rfl, hb] at hx
              injection hx with hx
              exact .inl hx.symm
            · rw [show In A9 x = (blk A9 = some x) from rfl, hb] at hx
              injection hx with hx
              right
              rw [← hx]
              have := hcN.size
              simp
              omega
        obtain ⟨t2, A, lc, rfl, holC, hcC, hAgl⟩ := hcut
        clear holB hnx
        obtain ⟨b1, hb1⟩ : ∃ b1 : EvF, b1 = ⟨s1.id + 1, v, t2, kE, 0, 0, { data := #[] }, none, 0, [], none, 0, []⟩ := ⟨_, rfl⟩
        have HYB := Lib.hid (by rw [hb1]; exact Yng.bare p _ _ _ _ _ _ _ : Yng p b1)
        have HEB := Lib.hid (fun (u : World) => (by rw [hb1]; exact EvS.bare u _ _ _ _ : EvS u b1))
        rw [← hb1] at holC
        have HB1 := Lib.hid (show b1.id = s1.id + 1 by rw [hb1])
        clear hb1
        have b9C := b9B.keep hcC (fun e => hlg9 e.symm)
        have bWC := bWB.keep hcC (fun e => hglw e.symm)
        have bPC := bPB.keep hcC hpe
        have HKC := Lib.hid (fun (u : World) (hu : Chg (fun x => x = p ∨ x = g9) wc u) => HKB.out u ((hcC.mono (T := fun x => x = p ∨ x = g9 ∨ x = gl) (fun x hx => .inl (.inr (.inr hx)))).trans hu (fun x hx => .inl (hx.elim .inl (fun e => .inr (.inl e))))))
        have hcwC : Chg (· = p) w wc := hcwB.trans hcC (fun x hx => .inr (by rw [hx]; exact hgl.1))
        clear bPB b9B bWB
        have t0 : wc.cell? ⟨gw, 0, none⟩ = some (.int .i64 s.id) := bWC.cell 0 rfl
        have t1 : wc.cell? ⟨gw, 1, none⟩ = some (.int .i64 s.ver) := bWC.cell 1 rfl
        have t2 : wc.cell? ⟨gw, 2, none⟩ = some (.int .i64 s.tm) := bWC.cell 2 rfl
        have t3 : wc.cell? ⟨gw, 3, none⟩ = some (.int .i64 s.cl) := bWC.cell 3 rfl
        have t4 : wc.cell? ⟨gw, 4, none⟩ = some (.bool s.ca) := bWC.cell 4 rfl
        have t5 : wc.cell? ⟨gw, 5, none⟩ = some (.slice s.D s.dl.length s.dc) := bWC.cell 5 rfl
        have t6 : wc.cell? ⟨gw, 6, none⟩ = some (.slice s.N s.nl.length s.nc) := bWC.cell 6 rfl
        have t7 : wc.cell? ⟨gw, 7, none⟩ = some (.slice s.T s.tl.length s.tc) := bWC.cell 7 rfl
        have t8 : wc.cell? ⟨gw, 8, none⟩ = some (.slice s.S s.sl.length s.sc) := bWC.cell 8 rfl
        have q0 : wc.cell? ⟨p, 0, none⟩ = some (.int .i64 s1.id) := bPC.cell 0 rfl
        have q1 : wc.cell? ⟨p, 1, none⟩ = some (.int .i64 s1.ver) := bPC.cell 1 rfl
        have q2 : wc.cell? ⟨p, 2, none⟩ = some (.int .i64 s1.tm) := bPC.cell 2 rfl
        have q3 : wc.cell? ⟨p, 3, none⟩ = some (.int .i64 s1.cl) := bPC.cell 3 rfl
        have q4 : wc.cell? ⟨p, 4, none⟩ = some (.bool s1.ca) := bPC.cell 4 rfl
        have q5 : wc.cell? ⟨p, 5, none⟩ = some (.slice s1.D s1.dl.length s1.dc) := bPC.cell 5 rfl
        have q6 : wc.cell? ⟨p, 6, none⟩ = some (.slice s1.N s1.nl.length s1.nc) := bPC.cell 6 rfl
        have q7 : wc.cell? ⟨p, 7, none⟩ = some (.slice s1.T s1.tl.length s1.tc) := bPC.cell 7 rfl
        have q8 : wc.cell? ⟨p, 8, none⟩ = some (.slice s1.S s1.sl.length s1.sc) := bPC.cell 8 rfl
        have z0 := bPC.fz 0
        have z1 := bPC.fz 1
        have z2 := bPC.fz 2
        have z3 := bPC.fz 3
        have z4 := bPC.fz 4
        have z5 := bPC.fz 5
        have z6 := bPC.fz 6
        have z7 := bPC.fz 7
        have z8 := bPC.fz 8
        go_upto_region 19 with fail
        obtain ⟨wD, hwD⟩ : ∃ wD, wD = (((((((((wc.setCell ⟨p, 0, none⟩ (.int .i64 s.id)).setCell ⟨p, 1, none⟩ (.int .i64 s.ver)).setCell ⟨p, 2, none⟩ (.int .i64 s.tm)).setCell ⟨p, 3, none⟩ (.int .i64 s.cl)).setCell ⟨p, 4, none⟩ (.bool s.ca)).setCell ⟨p, 5, none⟩ (.slice s.D s.dl.length s.dc)).setCell ⟨p, 6, none⟩ (.slice s.N s.nl.length s.nc)).setCell ⟨p, 7, none⟩ (.slice s.T s.tl.length s.tc)).setCell ⟨p, 8, none⟩ (.slice s.S s.sl.length s.sc)) := ⟨_, rfl⟩
        have bPD : BoxAt wD p 80 #[.int .i64 s.id, .int .i64 s.ver, .int .i64 s.tm, .int .i64 s.cl, .bool s.ca, .slice s.D s.dl.length s.dc, .slice s.N s.nl.length s.nc, .slice s.T s.tl.length s.tc, .slice s.S s.sl.length s.sc, .int .i64 v, .int .i64 n, .slice O out.length oc] := by rw [hwD]; exact BoxAt.set9of12 bPC _ _ _ _ _ _ _ _ _
        have hcD : Chg (· = p) wc wD := by rw [hwD]; exact chg_set9 _ _ _ _ _ _ _ _ _ _ _
        rw [← hwD]
        clear hwD t0 t1 t2 t3 t4 t5 t6 t7 t8 q0 q1 q2 q3 q4 q5 q6 q7 q8 z0 z1 z2 z3 z4 z5 z6 z7 z8
        have b9D := b9C.keep hcD hg9p
        have hApp : ∀ x, In A x → x ≠ p := fun x hx e => by have h1 := (own_lt holC hx).1; omega
        have hA9 : ∀ x, In A x → x ≠ g9 := fun x hx e => by
          rcases hAgl x hx with h1 | h1
          · exact hlg9 (h1.symm.trans e)
          · have h2 := b9C.lt; have h3 := hcB.size; have h4 := hcA.size; have h5 := b93.lt; omega
        have holD := hcD.ownS holC (fun x hx e => hApp x hx e)
        have hcwD := hcwC.trans hcD (fun x hx => .inl hx)
        have HKD := Lib.hid (fun (u : World) (hu : Chg (fun x => x = p ∨ x = g9) wD u) => HKC.out u ((hcD.mono (T := fun x => x = p ∨ x = g9) (fun x hx => .inl (.inl hx))).trans hu (fun x hx => .inl hx)))
        obtain ⟨gA, rfl⟩ : ∃ gA, A = some ⟨gA, 0, none⟩ := by
          rcases holD.2 with ⟨h0, h1⟩ | ⟨g8, cap8, cur8, hv8, _⟩
          · omega
          · injection hv8 with h8; exact ⟨g8, h8⟩
        have hra := Rd.of_own holD
        have e0 : wD.cell? ⟨gA, 9, none⟩ = some (.int .i64 b1.id) := hra.cells rfl 9 _ rfl
        have hwgA : w.heap.size ≤ gA ∧ gA < wD.heap.size := own_lt holD rfl
        clear bPC b9C bWC hcD hcC
        by_cases hid2 : 200 < b1.id
        · have f5 : decide (200 < b1.id) = true := by simpa using hid2
          go_wp2_with fail
          go_ret
          exact ⟨2, out, s, rfl, HP.out.back HRO.out bPD hcwD, hcwD, fun e => absurd e (by decide)⟩
        have f5 : decide (200 < b1.id) = false := by simpa using hid2
        have hid3 : b1.id ≤ 200 := by omega
        clear hid2
        have q1 : wD.cell? ⟨gA, 10, none⟩ = some (.int .i64 b1.ver) := hra.cells rfl 10 _ rfl
        have q2 : wD.cell? ⟨gA, 11, none⟩ = some (.int .i64 b1.tm) := hra.cells rfl 11 _ rfl
        have q3 : wD.cell? ⟨gA, 12, none⟩ = some (.int .i64 b1.ty) := hra.cells rfl 12 _ rfl
        have q4 : wD.cell? ⟨gA, 13, none⟩ = some (.int .i64 b1.node) := hra.cells rfl 13 _ rfl
        have q5 : wD.cell? ⟨gA, 14, none⟩ = some (.int .i64 b1.m) := hra.cells rfl 14 _ rfl
        have q6 : wD.cell? ⟨gA, 15, none⟩ = some (.string b1.nm) := hra.cells rfl 15 _ rfl
        have q7 : wD.cell? ⟨gA, 16, none⟩ = some (.slice b1.A b1.bs.length b1.c) := hra.cells rfl 16 _ rfl
        have q8 : wD.cell? ⟨gA, 17, none⟩ = some (.slice b1.D b1.dl.length b1.dc) := hra.cells rfl 17 _ rfl
        have hs1id := HS1ID.out
        have hap := apply_any (fun x => x = p ∨ x = g9) s1 b1 wD.drew (fun x hx => hx.elim (fun e => by rw [e]; exact bPD.lt) (fun e => by rw [e]; exact b9D.lt)) (fun u hu => HKD.out u hu.undrew) (fun u _ => HEB.out u) HK2.out (by omega) (by omega) (by have := HAID.out; omega)
        simp only [StV.val, StV.row, EvF.val, EvF.row] at hap
        have HAP := Lib.hid hap
        have HB9 := Lib.hid b9D
        clear hap hs1id
        go_upto_region 21 with fail
        go_cut [10] from 57 to 90 (fun kv w' => ∃ (k2 : Int) (s2 : StV), kv = .int .i64 k2 ∧ BoxAt w' g9 78 #[.int .i64 s2.id, .int .i64 s2.ver, .int .i64 s2.tm, .int .i64 s2.cl, .bool s2.ca, .slice s2.D s2.dl.length s2.dc, .slice s2.N s2.nl.length s2.nc, .slice s2.T s2.tl.length s2.tc, .slice s2.S s2.sl.length s2.sc] ∧ Chg (· = g9) wD w' ∧
          (k2 = 0 → (∀ u, Chg (fun x => x = p ∨ x = g9) w' u → StOk u s2) ∧ TlOk s2.tl ∧ s2.sl.length ≤ s1.sl.length + 1 ∧ b1.right = true ∧ b1.id = s1.id + 1 ∧ s1.ver ≤ b1.ver ∧ s1.tm ≤ b1.tm ∧ s2.id = b1.id ∧ s2.ver = b1.ver ∧ s2.tm = b1.tm))
        case first =>
          have r0 : wD.cell? ⟨g9, 0, none⟩ = some (.int .i64 s1.id) := b9D.cell 0 rfl
          have r1 : wD.cell? ⟨g9, 1, none⟩ = some (.int .i64 s1.ver) := b9D.cell 1 rfl
          have r2 : wD.cell? ⟨g9, 2, none⟩ = some (.int .i64 s1.tm) := b9D.cell 2 rfl
          have r3 : wD.cell? ⟨g9, 3, none⟩ = some (.int .i64 s1.cl) := b9D.cell 3 rfl
          have r4 : wD.cell? ⟨g9, 4, none⟩ = some (.bool s1.ca) := b9D.cell 4 rfl
          have r5 : wD.cell? ⟨g9, 5, none⟩ = some (.slice s1.D s1.dl.length s1.dc) := b9D.cell 5 rfl
          have r6 : wD.cell? ⟨g9, 6, none⟩ = some (.slice s1.N s1.nl.length s1.nc) := b9D.cell 6 rfl
          have r7 : wD.cell? ⟨g9, 7, none⟩ = some (.slice s1.T s1.tl.length s1.tc) := b9D.cell 7 rfl
          have r8 : wD.cell? ⟨g9, 8, none⟩ = some (.slice s1.S s1.sl.length s1.sc) := b9D.cell 8 rfl
          clear b9D bPD hra
          go_region_law (first
            | (go_simp; go_at_call 92; (with_reducible refine (HAP.out).mono ?_); rintro e w2 ⟨⟨xid, xver, xtm, xcl, xca, xD, xdl, xdc, xN, xnl, xnc, xT, xtl, xtc, xS, xsl, xsc⟩, k, he, hc2, hok⟩; simp only [StV.val, StV.row] at he; subst he; have HOK := Lib.hid hok; clear hok; have b2 := HB9.out.keep (Chg.undrew hc2) (fun h => h); have t0 : w2.cell? ⟨g9, 0, none⟩ = some (.int .i64 s1.id) := b2.cell 0 rfl; have zt0 := b2.fz 0; have t1 : w2.cell? ⟨g9, 1, none⟩ = some (.int .i64 s1.ver) := b2.cell 1 rfl; have zt1 := b2.fz 1; have t2 : w2.cell? ⟨g9, 2, none⟩ = some (.int .i64 s1.tm) := b2.cell 2 rfl; have zt2 := b2.fz 2; have t3 : w2.cell? ⟨g9, 3, none⟩ = some (.int .i64 s1.cl) := b2.cell 3 rfl; have zt3 := b2.fz 3; have t4 : w2.cell? ⟨g9, 4, none⟩ = some (.bool s1.ca) := b2.cell 4 rfl; have zt4 := b2.fz 4; have t5 : w2.cell? ⟨g9, 5, none⟩ = some (.slice s1.D s1.dl.length s1.dc) := b2.cell 5 rfl; have zt5 := b2.fz 5; have t6 : w2.cell? ⟨g9, 6, none⟩ = some (.slice s1.N s1.nl.length s1.nc) := b2.cell 6 rfl; have zt6 := b2.fz 6; have t7 : w2.cell? ⟨g9, 7, none⟩ = some (.slice s1.T s1.tl.length s1.tc) := b2.cell 7 rfl; have zt7 := b2.fz 7; have t8 : w2.cell? ⟨g9, 8, none⟩ = some (.slice s1.S s1.sl.length s1.sc) := b2.cell 8 rfl; have zt8 := b2.fz 8)
            | fail)
          all_goals
            go_wp2_with fail
            go_meet
            have hcS := chg_set9 w2 g9 (.int .i64 xid) (.int .i64 xver) (.int .i64 xtm) (.int .i64 xcl) (.bool xca) (.slice xD xdl.length xdc) (.slice xN xnl.length xnc) (.slice xT xtl.length xtc) (.slice xS xsl.length xsc)
            refine ⟨k, ⟨xid, xver, xtm, xcl, xca, xD, xdl, xdc, xN, xnl, xnc, xT, xtl, xtc, xS, xsl, xsc⟩, rfl, BoxAt.set9 b2 _ _ _ _ _ _ _ _ _, (hc2.undrew.mono (fun x h => h.elim)).trans hcS (fun x hx => .inl hx), fun hk => ?_⟩
            obtain ⟨j1, j2, j3, j4, j5, j6, j7, j8, j9, j10⟩ := HOK.out hk
            exact ⟨fun u hu => j1 u ((hcS.mono (T := fun x => x = p ∨ x = g9) (fun x hx => .inl (.inr hx))).trans hu (fun x hx => .inl hx)), j2, j3, j4, j5, j6, j7, j8, j9, j10⟩
        obtain ⟨k2, s2, rfl, b9E, hcE, hok2⟩ := hcut
        have bPE := bPD.keep hcE hpg9
        have holE := hcE.ownS holD (fun x hx e => hA9 x hx e)
        have hcwE : Chg (· = p) w wc := hcwD.trans hcE (fun x hx => .inr (by rw [hx]; exact hg9w))
        by_cases hk2 : k2 = 0
        rotate_left
        · have f6 : (k2 != 0) = true := by simpa using hk2
          have f7 : decide (k2 = 0) = false := by simpa using hk2
          have HKK := Lib.hid hk2
          clear hk2
          go_wp2_with fail
          go_ret
          exact ⟨k2, out, s, rfl, HP.out.back HRO.out bPE hcwE, hcwE, fun e => absurd e HKK.out⟩
        · subst hk2
          obtain ⟨j1, j2, j3, j4, j5, j6, j7, j8, j9, j10⟩ := hok2 rfl
          have J1 := Lib.hid j1
          have J2 := Lib.hid j2
          have JC := Lib.hid (show Chain (s.id, s.ver, s.tm) ([a] ++ [b1]) (s2.id, s2.ver, s2.tm) from HCH.out.app ⟨⟨j4, j5, j6, j7⟩, by rw [j8, j9, j10]; rfl⟩)
          have J3 := Lib.hid (show (s2.sl.length : Int) ≤ s2.id ∧ s.id < s2.id by have := HS1ID.out; exact ⟨by omega, by omega⟩)
          clear hok2 j1 j2 j3 j4 j5 j6 j7 j8 j9 j10
          go_wp2_with fail
          go_meet
          exact ⟨some ⟨gA, 0, none⟩, lc, [a] ++ [b1], s2, rfl, holE, b9E, bPE, J1.out, J2.out, J3.out.1, J3.out.2, JC.out, (fun x hx => by
            rcases List.mem_append.1 hx with hx | hx
            · simp only [List.mem_singleton] at hx; rw [hx]; exact ⟨HEA.out, HYA.out⟩
            · simp only [List.mem_singleton] at hx; rw [hx]; exact ⟨fun u _ => HEB.out u, HYB.out⟩), hcwE⟩
    obtain ⟨A, lc, lst, s2, rfl, hol, b9, bP, hk1, hk2, hk3, hk4, hk5, hk6, hc⟩ := hcut
    have HK1 := Lib.hid hk1
    have HK5 := Lib.hid hk5
    have HK6 := Lib.hid hk6
    have hol1 := HP.out.ch.len
    have hol2 := hk5.len
    have h200 := hk5.le200 h2
    have hb0 := HP.out.b0
    simp only at hol1 hol2 h200
    have hout : out.length ≤ 200 := by omega
    have hlst : lst.length ≤ 200 := by omega
    clear hol1 hol2 hk1 hk5 hk6 hol3 b93 bP3 hc3 HK3
    have r0 : wc.cell? ⟨g9, 0, none⟩ = some (.int .i64 s2.id) := b9.cell 0 rfl
    have r1 : wc.cell? ⟨g9, 1, none⟩ = some (.int .i64 s2.ver) := b9.cell 1 rfl
    have r2 : wc.cell? ⟨g9, 2, none⟩ = some (.int .i64 s2.tm) := b9.cell 2 rfl
    have r3 : wc.cell? ⟨g9, 3, none⟩ = some (.int .i64 s2.cl) := b9.cell 3 rfl
    have r4 : wc.cell? ⟨g9, 4, none⟩ = some (.bool s2.ca) := b9.cell 4 rfl
    have r5 : wc.cell? ⟨g9, 5, none⟩ = some (.slice s2.D s2.dl.length s2.dc) := b9.cell 5 rfl
    have r6 : wc.cell? ⟨g9, 6, none⟩ = some (.slice s2.N s2.nl.length s2.nc) := b9.cell 6 rfl
    have r7 : wc.cell? ⟨g9, 7, none⟩ = some (.slice s2.T s2.tl.length s2.tc) := b9.cell 7 rfl
    have r8 : wc.cell? ⟨g9, 8, none⟩ = some (.slice s2.S s2.sl.length s2.sc) := b9.cell 8 rfl
    have q0 : wc.cell? ⟨p, 0, none⟩ = some (.int .i64 s.id) := bP.cell 0 rfl
    have q1 : wc.cell? ⟨p, 1, none⟩ = some (.int .i64 s.ver) := bP.cell 1 rfl
    have q2 : wc.cell? ⟨p, 2, none⟩ = some (.int .i64 s.tm) := bP.cell 2 rfl
    have q3 : wc.cell? ⟨p, 3, none⟩ = some (.int .i64 s.cl) := bP.cell 3 rfl
    have q4 : wc.cell? ⟨p, 4, none⟩ = some (.bool s.ca) := bP.cell 4 rfl
    have q5 : wc.cell? ⟨p, 5, none⟩ = some (.slice s.D s.dl.length s.dc) := bP.cell 5 rfl
    have q6 : wc.cell? ⟨p, 6, none⟩ = some (.slice s.N s.nl.length s.nc) := bP.cell 6 rfl
    have q7 : wc.cell? ⟨p, 7, none⟩ = some (.slice s.T s.tl.length s.tc) := bP.cell 7 rfl
    have q8 : wc.cell? ⟨p, 8, none⟩ = some (.slice s.S s.sl.length s.sc) := bP.cell 8 rfl
    have z0 := bP.fz 0
    have z1 := bP.fz 1
    have z2 := bP.fz 2
    have z3 := bP.fz 3
    have z4 := bP.fz 4
    have z5 := bP.fz 5
    have z6 := bP.fz 6
    have z7 := bP.fz 7
    have z8 := bP.fz 8
    go_upto_region 25 with fail
    obtain ⟨w6, hw6⟩ : ∃ w6, w6 = (((((((((wc.setCell ⟨p, 0, none⟩ (.int .i64 s2.id)).setCell ⟨p, 1, none⟩ (.int .i64 s2.ver)).setCell ⟨p, 2, none⟩ (.int .i64 s2.tm)).setCell ⟨p, 3, none⟩ (.int .i64 s2.cl)).setCell ⟨p, 4, none⟩ (.bool s2.ca)).setCell ⟨p, 5, none⟩ (.slice s2.D s2.dl.length s2.dc)).setCell ⟨p, 6, none⟩ (.slice s2.N s2.nl.length s2.nc)).setCell ⟨p, 7, none⟩ (.slice s2.T s2.tl.length s2.tc)).setCell ⟨p, 8, none⟩ (.slice s2.S s2.sl.length s2.sc)) := ⟨_, rfl⟩
    have bP6 : BoxAt w6 p 80 #[.int .i64 s2.id, .int .i64 s2.ver, .int .i64 s2.tm, .int .i64 s2.cl, .bool s2.ca, .slice s2.D s2.dl.length s2.dc, .slice s2.N s2.nl.length s2.nc, .slice s2.T s2.tl.length s2.tc, .slice s2.S s2.sl.length s2.sc, .int .i64 v, .int .i64 n, .slice O out.length oc] := by rw [hw6]; exact BoxAt.set9of12 bP _ _ _ _ _ _ _ _ _
    have hc6 : Chg (· = p) wc w6 := by rw [hw6]; exact chg_set9 _ _ _ _ _ _ _ _ _ _ _
    rw [← hw6]
    clear hw6 r0 r1 r2 r3 r4 r5 r6 r7 r8 q0 q1 q2 q3 q4 q5 q6 q7 q8 z0 z1 z2 z3 z4 z5 z6 z7 z8 bP b9
    have hpA : ∀ x, In A x → x ≠ p := fun x hx e => by have h1 := (own_lt hol hx).1; omega
    have hol6 := hc6.ownS hol (fun x hx e => hpA x hx e)
    have hcw := hc.trans hc6 (fun x hx => .inl hx)
    obtain ⟨i0, hi, hz0, hz1, hz2⟩ := info_parts evInfo
    have hpw6 : p < w6.heap.size := bP6.lt
    have r11 : (w6.alloc (.cells #[] 32)).cell? ⟨p, 11, none⟩ = some (.slice O out.length oc) := (bP6.keep ((Chg.refl (fun _ => False) _).alloc _) (fun h => h)).cell 11 rfl
    have hmade : (w6.alloc (.cells #[] 32)).ownsRow w6.heap.size 32 9 (.slice (some ⟨w6.heap.size, 0, none⟩) 0 0) 0 [] := World.ownsRow_made w6 #[] 0 (Nat.le_refl _) (by decide) rfl
    have hl1 : 0 + out.length ≤ maxLen := by simp only [maxLen]; omega
    have hl2 : (0 + out.length) * 112 ≤ 140737488355328 := by omega
    have hl3 : out.length + lst.length ≤ maxLen := by simp only [maxLen]; omega
    have hl4 : (out.length + lst.length) * 112 ≤ 140737488355328 := by omega
    have hRO := (HRO.out w6 hcw).rd
    have hRL := Rd.of_own hol6
    go_wp2_with (first
      | (at_builtin; refine wpList_append_rd _ rfl (.tmp 104) (.tmp 105) 27 rfl w6.heap.size 32 i0 _ 9 112 Tryz.underlying27 hi hz0 hz1 hz2 rfl (by decide) A8 out.length c8 (eoC out) (by first | rfl | (simp only [Nat.zero_add]; rfl)) hown8 A lst.length lc (eoC lst) rfl (eoC_len _) (hRL.keep hc8 (fun _ _ h => h)) (eoC_one _) hl3 hl4 hc8.size ?_; intro A9 c9 w9 hown9 hg9 hb9; have hc9 : Chg (fun _ => False) w6 w9 := hc8.trans hg9 (fun x hx => .inr (own_lt hown8 hx).1); have bP9 := bP6.keep hc9 (fun h => h); have r11' : w9.cell? ⟨p, 11, none⟩ = some (.slice O out.length oc) := bP9.cell 11 rfl; have z11' := bP9.fz 11)
      | (at_builtin; refine wpList_append_rd _ rfl (.tmp 99) (.tmp 103) 27 rfl w6.heap.size 32 i0 _ 9 112 Tryz.underlying27 hi hz0 hz1 hz2 rfl (by decide) _ 0 0 [] rfl hmade O out.length oc (eoC out) rfl (eoC_len _) (hRO.alloc _) (eoC_one _) hl1 hl2 (by simp) ?_; intro A8 c8 w8 hown8 hg8 hb8; have hc8 := chg_made hg8; simp only [Nat.zero_add, List.nil_append] at hown8))
    go_ret
    rw [← eoC_app] at hown9
    have hln : out.length + lst.length = (out ++ lst).length := by rw [List.length_append]
    rw [hln] at hown9 ⊢
    have hb9' : ∀ x, In A9 x → x ≠ p := fun x hx e => by have h1 := (own_lt hown9 hx).1; omega
    have hS := chg_put w9 p 11 (.slice A9 (out ++ lst).length c9)
    have hcF : Chg (· = p) w _ := (hcw.trans hc9 (fun x hx => hx.elim)).trans hS (fun x hx => .inl hx)
    have hown := hS.ownS hown9 (fun x hx e => hb9' x hx e)
    refine ⟨0, out ++ lst, s2, rfl, ⟨⟨A9, c9, by simpa [penRow] using bP9.set 11 (.slice A9 (out ++ lst).length c9), fun u hu => ⟨(Rd.of_own hown).keep hu (fun x hx e => hb9' x hx e), fun y hy => ?_⟩⟩, fun u hu => ?_, by omega, h200, hk2, hk3, hb0, HP.out.ch.app HK5.out, fun y hy => (List.mem_append.1 hy).elim (HP.out.yo y) (fun hy => (HK6.out y hy).2)⟩, hcF, fun _ => hk4⟩
    · have hcu := hcF.trans hu (fun x hx => .inl hx)
      rcases List.mem_append.1 hy with hy | hy
      · exact (HRO.out u hcu).ev y hy
      · exact (HK6.out y hy).1 u hcu
    · exact HK1.out u ((((hc6.trans hc9 (fun x hx => hx.elim)).trans hS (fun x hx => .inl hx)).trans hu (fun x hx => .inl hx)).mono (fun x hx => .inl (.inl hx)))
end Go.Proofs.YtngfimjbgopgjaaGreatDoor
