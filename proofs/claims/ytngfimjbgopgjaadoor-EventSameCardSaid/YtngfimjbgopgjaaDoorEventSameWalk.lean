/- EventSame: the walk of cutoverlaw10.EventSame (gen_evsamew.py). -/
import Derived.Test.YtngfimjbgopgjaaDoorPlayAll
import Derived.Test.YtngfimjbgopgjaaDoorEvCpyAll
import Derived.Test.YtngfimjbgopgjaaDoorEvSub
import Derived.Test.YtngfimjbgopgjaaDoorEvSame
import Derived.Test.YtngfimjbgopgjaaDoorRfSameE
import Derived.Deep.RegionHeld3
namespace Go.Proofs.YtngfimjbgopgjaaDoor.eventSame
open Go.RowKit
set_option linter.unusedVariables false

theorem tells_as {P : Prop} {pb : Bool} {w w' : World} {e : Ending} (h : (∃ b : Bool, e = .returned (.bool b) ∧ (b = true ↔ P)) ∧ Chg (fun _ => False) w w') (hp : pb = true ↔ P) : e = .returned (.bool pb) ∧ Chg (fun _ => False) w w' := by
  obtain ⟨⟨b, he, hb⟩, hc⟩ := h
  have e1 : b = pb := by
    cases b <;> cases pb
    · rfl
    · exact absurd (hb.2 (hp.1 rfl)) (by decide)
    · exact absurd (hp.2 (hb.1 rfl)) (by decide)
    · rfl
  rw [← e1]
  exact ⟨he, hc⟩
theorem one_s (x : RawV) (w : World) (h : RawOk w x) (hN : NamesAt w 0) : Calls Tryd.prog 7 #[.agg #[.int .i64 x.id, .int .i64 x.ver, .int .i64 x.tm, .int .i64 x.ty, .int .i64 x.node, .int .i64 x.m, .int .i64 x.name, .int .i64 x.defs, .int .i64 x.how, .slice x.A x.n x.c, .slice x.L x.ln x.lc]] w fun e w' => ∃ f : EvF, e = .returned f.val ∧ EvS w' f ∧ EvOff (fun x => x ≤ w.heap.size) f ∧ Chg (fun _ => False) w w' :=
  (one_any x w h hN).mono fun e w' ⟨f, he, hE, hc⟩ => ⟨f, he, ⟨hE.rdy, hE.byt⟩, ⟨fun _ x hx hs => by have := hE.offA x hx; omega, fun _ x hx hs => by have := hE.offD x hx; omega, fun d hd _ x hx hs => by have := hE.offN d hd x hx; omega⟩, hc⟩

set_option maxHeartbeats 8000000 in
set_option maxRecDepth 20000 in
theorem walk (w : World) (x : RawV) (hx : RawOk w x) (y : RawV) (hy : RawOk w y) (near : Bool) (T : Option Addr) (sn sc : Nat) (hS : RSteps w T sn sc) (U : Option Addr) (un uc : Nat) (hU : RSteps w U un uc) (D : Option Addr) (dn dc : Nat) (hD : RawDs w D dn dc) (hN : NamesAt w 0) :
    Calls Tryd.prog 5 #[x.val, y.val, .bool near, .slice T sn sc, .slice U un uc, .slice D dn dc] w (SaysTrue w) := by
  have HX := Lib.hid hx
  have HY := Lib.hid hy
  have HST := Lib.hid hS
  have HSU := Lib.hid hU
  have HD := Lib.hid hD
  have HN := Lib.hid hN
  clear hx hy hS hU hD hN
  unfold RawV.val
  obtain ⟨w1, hw1⟩ : ∃ w1, w1 = (w.alloc (.cells #[.int .i64 x.id, .int .i64 x.ver, .int .i64 x.tm, .int .i64 x.ty, .int .i64 x.node, .int .i64 x.m, .int .i64 x.name, .int .i64 x.defs, .int .i64 x.how, .slice x.A x.n x.c, .slice x.L x.ln x.lc] 25)).alloc (.cells #[.int .i64 y.id, .int .i64 y.ver, .int .i64 y.tm, .int .i64 y.ty, .int .i64 y.node, .int .i64 y.m, .int .i64 y.name, .int .i64 y.defs, .int .i64 y.how, .slice y.A y.n y.c, .slice y.L y.ln y.lc] 25) := ⟨_, rfl⟩
  have bx : BoxAt w1 w.heap.size 25 #[.int .i64 x.id, .int .i64 x.ver, .int .i64 x.tm, .int .i64 x.ty, .int .i64 x.node, .int .i64 x.m, .int .i64 x.name, .int .i64 x.defs, .int .i64 x.how, .slice x.A x.n x.c, .slice x.L x.ln x.lc] := by rw [hw1]; exact (BoxAt.new w _ _).keep ((Chg.refl (fun _ => False) _).alloc _) (fun h => h)
  have bY : BoxAt w1 (w.heap.size + 1) 25 #[.int .i64 y.id, .int .i64 y.ver, .int .i64 y.tm, .int .i64 y.ty, .int .i64 y.node, .int .i64 y.m, .int .i64 y.name, .int .i64 y.defs, .int .i64 y.how, .slice y.A y.n y.c, .slice y.L y.ln y.lc] := by rw [hw1]; exact box2 w _ _ _
  have hc1 : Chg (fun _ => False) w w1 := by rw [hw1]; exact ((Chg.refl _ _).alloc _).alloc _
  go_enter Tryd.func5, Tryd.ntmps5
  go_upto_region 1 with fail
  rw [← hw1]
  clear hw1
  obtain ⟨gx, hgx⟩ : ∃ gx, gx = w.heap.size := ⟨_, rfl⟩
  rw [← hgx] at bx bY ⊢
  have HGX := Lib.hid hgx
  clear hgx
  go_cut [13] from 22 to 23 (fun v w' => ∃ (g : Nat) (f : EvF), v = .pointer (some ⟨g, 0, none⟩) ∧ BoxAt w' g 28 f.row ∧ EvS w' f ∧ gx + 1 < g ∧ Chg (fun _ => False) w1 w')
  case first =>
    have q0 : w1.cell? ⟨gx, 0, none⟩ = some (.int .i64 x.id) := bx.cell 0 rfl
    have q1 : w1.cell? ⟨gx, 1, none⟩ = some (.int .i64 x.ver) := bx.cell 1 rfl
    have q2 : w1.cell? ⟨gx, 2, none⟩ = some (.int .i64 x.tm) := bx.cell 2 rfl
    have q3 : w1.cell? ⟨gx, 3, none⟩ = some (.int .i64 x.ty) := bx.cell 3 rfl
    have q4 : w1.cell? ⟨gx, 4, none⟩ = some (.int .i64 x.node) := bx.cell 4 rfl
    have q5 : w1.cell? ⟨gx, 5, none⟩ = some (.int .i64 x.m) := bx.cell 5 rfl
    have q6 : w1.cell? ⟨gx, 6, none⟩ = some (.int .i64 x.name) := bx.cell 6 rfl
    have q7 : w1.cell? ⟨gx, 7, none⟩ = some (.int .i64 x.defs) := bx.cell 7 rfl
    have q8 : w1.cell? ⟨gx, 8, none⟩ = some (.int .i64 x.how) := bx.cell 8 rfl
    have q9 : w1.cell? ⟨gx, 9, none⟩ = some (.slice x.A x.n x.c) := bx.cell 9 rfl
    have q10 : w1.cell? ⟨gx, 10, none⟩ = some (.slice x.L x.ln x.lc) := bx.cell 10 rfl
    have hone := one_s x w1 (HX.out.still hc1) (HN.out.keep hc1 (fun h => h))
    go_wp2_with (go_at_call 7; (with_reducible refine hone.mono ?_); rintro e w2 ⟨⟨id, ver, tm, ty, node, m, nm, A, c, bs, D1, dc1, dl⟩, he, hE, _, hc⟩; simp only [EvF.val, EvF.row] at he; subst he)
    go_meet
    exact ⟨w2.heap.size, ⟨id, ver, tm, ty, node, m, nm, A, c, bs, D1, dc1, dl⟩, rfl, BoxAt.new w2 _ _, hE.still ((Chg.refl _ _).alloc _), (by have h1 := bY.lt; have h2 := hc.size; omega), hc.alloc _⟩
  obtain ⟨ge, fe, rfl, bE, hE, hge, hcA⟩ := hcut
  obtain ⟨w2, hw2⟩ : ∃ w2, w2 = wc := ⟨_, rfl⟩
  rw [← hw2] at bE hE hcA
  have hc2 := hc1.trans hcA (fun x hx => hx.elim)
  have bx2 := bx.keep hcA (fun h => h)
  have bY2 := bY.keep hcA (fun h => h)
  have HE := Lib.hid hE
  go_upto_region 2 with fail
  rw [← hw2]
  clear hw2 bx bY hE
  go_cut [14] from 24 to 25 (fun v w' => ∃ (g : Nat) (f : EvF), v = .pointer (some ⟨g, 0, none⟩) ∧ BoxAt w' g 28 f.row ∧ EvS w' f ∧ w2.heap.size ≤ g ∧ Chg (fun _ => False) w2 w')
  case first =>
    have q0 : w2.cell? ⟨gx + 1, 0, none⟩ = some (.int .i64 y.id) := bY2.cell 0 rfl
    have q1 : w2.cell? ⟨gx + 1, 1, none⟩ = some (.int .i64 y.ver) := bY2.cell 1 rfl
    have q2 : w2.cell? ⟨gx + 1, 2, none⟩ = some (.int .i64 y.tm) := bY2.cell 2 rfl
    have q3 : w2.cell? ⟨gx + 1, 3, none⟩ = some (.int .i64 y.ty) := bY2.cell 3 rfl
    have q4 : w2.cell? ⟨gx + 1, 4, none⟩ = some (.int .i64 y.node) := bY2.cell 4 rfl
    have q5 : w2.cell? ⟨gx + 1, 5, none⟩ = some (.int .i64 y.m) := bY2.cell 5 rfl
    have q6 : w2.cell? ⟨gx + 1, 6, none⟩ = some (.int .i64 y.name) := bY2.cell 6 rfl
    have q7 : w2.cell? ⟨gx + 1, 7, none⟩ = some (.int .i64 y.defs) := bY2.cell 7 rfl
    have q8 : w2.cell? ⟨gx + 1, 8, none⟩ = some (.int .i64 y.how) := bY2.cell 8 rfl
    have q9 : w2.cell? ⟨gx + 1, 9, none⟩ = some (.slice y.A y.n y.c) := bY2.cell 9 rfl
    have q10 : w2.cell? ⟨gx + 1, 10, none⟩ = some (.slice y.L y.ln y.lc) := bY2.cell 10 rfl
    have hone := one_s y w2 (HY.out.still hc2) (HN.out.keep hc2 (fun h => h))
    go_wp2_with (go_at_call 7; (with_reducible refine hone.mono ?_); rintro e w3 ⟨⟨id, ver, tm, ty, node, m, nm, A, c, bs, D1, dc1, dl⟩, he, hE, _, hc⟩; simp only [EvF.val, EvF.row] at he; subst he)
    go_meet
    exact ⟨w3.heap.size, ⟨id, ver, tm, ty, node, m, nm, A, c, bs, D1, dc1, dl⟩, rfl, BoxAt.new w3 _ _, hE.still ((Chg.refl _ _).alloc _), hc.size, hc.alloc _⟩
  obtain ⟨gf, f0, rfl, bF, hF, hgf, hcB⟩ := hcut
  obtain ⟨w3, hw3⟩ : ∃ w3, w3 = wc := ⟨_, rfl⟩
  rw [← hw3] at bF hF hcB
  have hc3 := hc2.trans hcB (fun x hx => hx.elim)
  have bx3 := bx2.keep hcB (fun h => h)
  have bY3 := bY2.keep hcB (fun h => h)
  have bE3 := bE.keep hcB (fun h => h)
  have HE3 := Lib.hid (HE.out.still hcB)
  have HEO := Lib.hid HE.out.old
  have hge2 := bE.lt
  go_upto_if 26 with fail
  rw [← hw3]
  clear hw3 bx2 bY2 bE HE
  go_cut [15] from 27 to 38 (fun _ w' => ∃ f : EvF, BoxAt w' gf 28 f.row ∧ EvS w' f ∧ Chg (· = gf) w3 w')
  case first =>
    cases near
    · go_wp2_with fail
      go_meet
      exact ⟨f0, bF, hF, Chg.refl _ _⟩
    · have HF := Lib.hid hF
      clear hF
      have q0 : w3.cell? ⟨gx, 0, none⟩ = some (.int .i64 x.id) := bx3.cell 0 rfl
      have q1 : w3.cell? ⟨gx, 1, none⟩ = some (.int .i64 x.ver) := bx3.cell 1 rfl
      have q2 : w3.cell? ⟨gx, 2, none⟩ = some (.int .i64 x.tm) := bx3.cell 2 rfl
      have q3 : w3.cell? ⟨gx, 3, none⟩ = some (.int .i64 x.ty) := bx3.cell 3 rfl
      have q4 : w3.cell? ⟨gx, 4, none⟩ = some (.int .i64 x.node) := bx3.cell 4 rfl
      have q5 : w3.cell? ⟨gx, 5, none⟩ = some (.int .i64 x.m) := bx3.cell 5 rfl
      have q6 : w3.cell? ⟨gx, 6, none⟩ = some (.int .i64 x.name) := bx3.cell 6 rfl
      have q7 : w3.cell? ⟨gx, 7, none⟩ = some (.int .i64 x.defs) := bx3.cell 7 rfl
      have q8 : w3.cell? ⟨gx, 8, none⟩ = some (.int .i64 x.how) := bx3.cell 8 rfl
      have q9 : w3.cell? ⟨gx, 9, none⟩ = some (.slice x.A x.n x.c) := bx3.cell 9 rfl
      have q10 : w3.cell? ⟨gx, 10, none⟩ = some (.slice x.L x.ln x.lc) := bx3.cell 10 rfl
      go_upto_region 5 with fail
      obtain ⟨w4, hw4⟩ : ∃ w4, w4 = w3.alloc (.cells #[.int .i64 x.id, .int .i64 x.ver, .int .i64 x.tm, .int .i64 x.ty, .int .i64 x.node, .int .i64 x.m, .int .i64 x.name, .int .i64 x.defs, .int .i64 x.how, .slice x.A x.n x.c, .slice x.L x.ln x.lc] 25) := ⟨_, rfl⟩
      have hc34 : Chg (fun _ => False) w3 w4 := by rw [hw4]; exact (Chg.refl _ _).alloc _
      have bz : BoxAt w4 w3.heap.size 25 #[.int .i64 x.id, .int .i64 x.ver, .int .i64 x.tm, .int .i64 x.ty, .int .i64 x.node, .int .i64 x.m, .int .i64 x.name, .int .i64 x.defs, .int .i64 x.how, .slice x.A x.n x.c, .slice x.L x.ln x.lc] := by rw [hw4]; exact BoxAt.new w3 _ _
      rw [← hw4]
      clear hw4 q0 q1 q2 q3 q4 q5 q6 q7 q8 q9 q10
      obtain ⟨gz, hgz⟩ : ∃ gz, gz = w3.heap.size := ⟨_, rfl⟩
      rw [← hgz] at bz ⊢
      have hzf : ¬ gf = gz := by have := bF.lt; omega
      have hzy : ¬ gx + 1 = gz := by have := bY3.lt; omega
      have hzx : ¬ gx = gz := by have := bx3.lt; omega
      have HGZ := Lib.hid hgz
      clear hgz
      have y8 : w4.cell? ⟨gx + 1, 8, none⟩ = some (.int .i64 y.how) := (bY3.keep hc34 (fun h => h)).cell 8 rfl
      have z8 := bz.fz 8
      have v8 : w4.cell? ⟨gz, 8, none⟩ = some (.int .i64 x.how) := bz.cell 8 rfl
      go_upto_region 6 with fail
      obtain ⟨w5, hw5⟩ : ∃ w5, w5 = w4.setCell ⟨gz, 8, none⟩ (.int .i64 y.how) := ⟨_, rfl⟩
      have hc45 : Chg (· = gz) w4 w5 := by rw [hw5]; exact chg_put _ _ _ _
      have bz5 := bz.set 8 (.int .i64 y.how)
      rw [← hw5] at bz5 ⊢
      simp at bz5
      clear hw5 y8 z8 v8 bz
      have y5 : w5.cell? ⟨gx + 1, 5, none⟩ = some (.int .i64 y.m) := ((bY3.keep hc34 (fun h => h)).keep hc45 hzy).cell 5 rfl
      have z5 := bz5.fz 5
      have v5 : w5.cell? ⟨gz, 5, none⟩ = some (.int .i64 x.m) := bz5.cell 5 rfl
      go_upto_region 7 with fail
      obtain ⟨w6, hw6⟩ : ∃ w6, w6 = w5.setCell ⟨gz, 5, none⟩ (.int .i64 y.m) := ⟨_, rfl⟩
      have hc56 : Chg (· = gz) w5 w6 := by rw [hw6]; exact chg_put _ _ _ _
      have bz6 := bz5.set 5 (.int .i64 y.m)
      rw [← hw6] at bz6 ⊢
      simp at bz6
      clear hw6 y5 z5 v5 bz5
      have hc46 := hc45.trans hc56 (fun x hx => .inl hx)
      have x2 : w6.cell? ⟨gx, 2, none⟩ = some (.int .i64 x.tm) := ((bx3.keep hc34 (fun h => h)).keep hc46 hzx).cell 2 rfl
      have z2 := bz6.fz 2
      have v2 : w6.cell? ⟨gz, 2, none⟩ = some (.int .i64 x.tm) := bz6.cell 2 rfl
      go_upto_region 8 with fail
      obtain ⟨w7, hw7⟩ : ∃ w7, w7 = w6.setCell ⟨gz, 2, none⟩ (.int .i64 x.tm) := ⟨_, rfl⟩
      have hc67 : Chg (· = gz) w6 w7 := by rw [hw7]; exact chg_put _ _ _ _
      have bz7 := bz6.set 2 (.int .i64 x.tm)
      rw [← hw7] at bz7 ⊢
      simp at bz7
      clear hw7 x2 z2 v2 bz6
      have hc37 : Chg (fun _ => False) w3 w7 := hc34.trans (hc46.trans hc67 (fun x hx => .inl hx)) (fun x hx => .inr (by rw [hx, HGZ.out]; exact Nat.le_refl _))
      have hc7 := hc3.trans hc37 (fun x hx => hx.elim)
      have hxz : RawOk w7 ⟨x.id, x.ver, x.tm, x.ty, x.node, y.m, x.name, x.defs, y.how, x.A, x.n, x.c, x.bs, x.L, x.ln, x.lc⟩ := by
        have h1 := HX.out.still hc7
        exact ⟨h1.len, h1.cap, h1.most, h1.rd, h1.byt, h1.ds⟩
      have hone := one_s ⟨x.id, x.ver, x.tm, x.ty, x.node, y.m, x.name, x.defs, y.how, x.A, x.n, x.c, x.bs, x.L, x.ln, x.lc⟩ w7 hxz (HN.out.keep hc7 (fun h => h))
      simp only at hone
      have HBF := Lib.hid (bF.keep hc37 (fun h => h))
      clear hxz
      have q0 : w7.cell? ⟨gz, 0, none⟩ = some (.int .i64 x.id) := bz7.cell 0 rfl
      have q1 : w7.cell? ⟨gz, 1, none⟩ = some (.int .i64 x.ver) := bz7.cell 1 rfl
      have q2 : w7.cell? ⟨gz, 2, none⟩ = some (.int .i64 x.tm) := bz7.cell 2 rfl
      have q3 : w7.cell? ⟨gz, 3, none⟩ = some (.int .i64 x.ty) := bz7.cell 3 rfl
      have q4 : w7.cell? ⟨gz, 4, none⟩ = some (.int .i64 x.node) := bz7.cell 4 rfl
      have q5 : w7.cell? ⟨gz, 5, none⟩ = some (.int .i64 y.m) := bz7.cell 5 rfl
      have q6 : w7.cell? ⟨gz, 6, none⟩ = some (.int .i64 x.name) := bz7.cell 6 rfl
      have q7 : w7.cell? ⟨gz, 7, none⟩ = some (.int .i64 x.defs) := bz7.cell 7 rfl
      have q8 : w7.cell? ⟨gz, 8, none⟩ = some (.int .i64 y.how) := bz7.cell 8 rfl
      have q9 : w7.cell? ⟨gz, 9, none⟩ = some (.slice x.A x.n x.c) := bz7.cell 9 rfl
      have q10 : w7.cell? ⟨gz, 10, none⟩ = some (.slice x.L x.ln x.lc) := bz7.cell 10 rfl
      clear bz7
      go_wp2_with (go_at_call 7; (with_reducible refine hone.mono ?_); rintro e w8 ⟨⟨id, ver, tm, ty, node, m, nm, A, c, bs, D1, dc1, dl⟩, he, hE, ho8, hc8⟩; have HO8 := Lib.hid ho8; clear ho8; simp only [EvF.val, EvF.row] at he; subst he; have HE8 := Lib.hid hE; clear hE; have bF8 := HBF.out.keep hc8 (fun h => h); have y0 := bF8.fz 0; have t0 := bF8.cell 0 rfl; have y1 := bF8.fz 1; have t1 := bF8.cell 1 rfl; have y2 := bF8.fz 2; have t2 := bF8.cell 2 rfl; have y3 := bF8.fz 3; have t3 := bF8.cell 3 rfl; have y4 := bF8.fz 4; have t4 := bF8.cell 4 rfl; have y5 := bF8.fz 5; have t5 := bF8.cell 5 rfl; have y6 := bF8.fz 6; have t6 := bF8.cell 6 rfl; have y7 := bF8.fz 7; have t7 := bF8.cell 7 rfl; have y8 := bF8.fz 8; have t8 := bF8.cell 8 rfl)
      go_meet
      have hcS := chg_set9 w8 gf (.int .i64 id) (.int .i64 ver) (.int .i64 tm) (.int .i64 ty) (.int .i64 node) (.int .i64 m) (.string nm) (.slice A bs.length c) (.slice D1 dl.length dc1)
      have hcF := ((hc37.trans hc8 (fun x hx => hx.elim)).mono (T := (· = gf)) (fun x h => h.elim)).trans hcS (fun x hx => .inl hx)
      exact ⟨⟨id, ver, tm, ty, node, m, nm, A, c, bs, D1, dc1, dl⟩, BoxAt.set9 bF8 _ _ _ _ _ _ _ _ _, HE8.out.keep hcS (HO8.out.mono (fun x hx => by have h1 := HBF.out.lt; rw [hx]; omega)), hcF⟩
  obtain ⟨ff, bF4, hF4, hcX⟩ := hcut
  have hgw : w.heap.size ≤ gf := by have := HGX.out; omega
  obtain ⟨w4, hw4⟩ : ∃ w4, w4 = wc := ⟨_, rfl⟩
  rw [← hw4] at bF4 hF4 hcX
  have hc4 : Chg (fun _ => False) w w4 := hc3.trans hcX (fun x hx => .inr (by rw [hx]; exact hgw))
  have bE4 := bE3.keep hcX (show ¬ ge = gf by omega)
  have hE4 : EvS w4 fe := HE3.out.keep hcX (HEO.out.mono (fun x hx => by rw [hx]; exact hgf))
  have HE4 := Lib.hid hE4
  have HF4 := Lib.hid hF4
  have HBE := Lib.hid bE4
  have HBF := Lib.hid bF4
  have HC4 := Lib.hid hc4
  go_upto_region 9 with fail
  rw [← hw4]
  clear hw4 hE4 hF4 bE4 bF4 bE3 bx3 bY3 bF hF hcX hc4 hc3 hcB hc2 hcA hc1 HE3
  have hb1 := branch_any T sn sc D dn dc w4 (HST.out.still HC4.out) (HD.out.still HC4.out) (HN.out.keep HC4.out (fun h => h))
  have hb2 := fun (w' : World) (hw : Chg (fun _ => False) w4 w') => branch_any U un uc D dn dc w' (HSU.out.still (HC4.out.trans hw (fun x hx => hx.elim))) (HD.out.still (HC4.out.trans hw (fun x hx => hx.elim))) (HN.out.keep (HC4.out.trans hw (fun x hx => hx.elim)) (fun h => h))
  have HB1 := Lib.hid hb1
  have HB2 := Lib.hid hb2
  clear hb1 hb2
  go_upto_region 10 with (go_at_call 19; (with_reducible refine HB1.out.mono ?_); rintro e w5 ⟨A, c, l, b, rfl, hL, hch⟩)
  obtain ⟨n, hn⟩ : ∃ n, n = l.length := ⟨_, rfl⟩
  have HN1 := Lib.hid hn
  have HL := Lib.hid hL
  have HCH := Lib.hid hch
  have hn2 := hch.good.1
  rw [← hn] at hn2 ⊢
  clear hL hch hn
  have h45 := HL.out.chg
  go_upto_region 11 with (go_at_call 19; (with_reducible refine (HB2.out w5 h45).mono ?_); rintro e w6 ⟨A2, c2, m, b2, rfl, hM, hch2⟩)
  obtain ⟨mn, hmn⟩ : ∃ mn, mn = m.length := ⟨_, rfl⟩
  have HMN := Lib.hid hmn
  have HM := Lib.hid hM
  have hm2 := hch2.good.1
  rw [← hmn] at hm2 ⊢
  clear hM hch2 hmn
  have h46 := h45.trans HM.out.chg (fun x hx => hx.elim)
  have HL6 := Lib.hid (HL.out.still HM.out.chg)
  have hca := copyAll_any A n c l w6 HL6.out.rd HN1.out.symm (by omega)
  have HCA := Lib.hid hca
  clear hca HL
  go_upto_region 12 with (go_at_call 20; (with_reducible refine HCA.out.mono ?_); rintro e w7 ⟨C, cc, lc, rfl, hC, hv, hev, hc67⟩)
  have HC := Lib.hid hC
  have HV := Lib.hid hv
  have HEV := Lib.hid hev
  have HBD := Lib.hid (fun (f : EvF) (hf : f ∈ lc) => (⟨(hev f hf).rdy.bn, (hev f hf).rdy.dn⟩ : f.bs.length ≤ 1048576 ∧ f.dl.length ≤ 1048576))
  clear hC hv hev
  go_cut [54] from 47 to 53 (fun r w' => r = .bool false ∧ Chg (fun _ => False) w7 w')
  case first =>
    have hk := fun w' => known10_any w'
    have hss := fun (w' : World) (hw : Chg (fun _ => False) w7 w') => (sameAll_any C A cc c lc l w' (⟨Rd.of_own (HC.out.still hw).own, fun f hf => (HEV.out f hf).still hw⟩) ((HL6.out.still (hc67.trans hw (fun x hx => hx.elim))).rd) (by rw [HC.out.len]; omega) (by rw [← HN1.out]; omega)).mono (R' := fun e w' => _) (fun e w' h => tells_so h HV.out)
    rw [← HN1.out, HC.out.len] at hss
    have HSS := Lib.hid hss
    clear hss
    go_wp2_with (first
      | (go_at_call 21; (with_reducible refine (HSS.out w8 hc8).mono ?_); rintro e w9 ⟨rfl, hc9⟩)
      | (go_at_call 16; (with_reducible refine (hk _).mono ?_); rintro e w8 ⟨rfl, hc8⟩))
    go_meet
    exact ⟨rfl, hc8.trans hc9 (fun x hx => hx.elim)⟩
  obtain ⟨rfl, hcX⟩ := hcut
  have hmu := (HC.out.still hcX).muts
  have hln : lc.length = n := HC.out.len
  have HLN := Lib.hid hln
  have HC6 := Lib.hid (hc67.trans hcX (fun x hx => hx.elim))
  have hmu0 : Muts w6.heap.size wc C lc := hmu
  clear HC HV HEV hcX hmu hln
  go_wp2_with fail
  go_loopw [19, 20, 21] (fun i _ _ w' => ∃ j : Nat, i = .int .i64 j ∧ j ≤ n ∧ Muts w6.heap.size w' C lc ∧ Chg (fun _ => False) w6 w') (fun i _ _ _ => n - (intOf i).toNat)
  case atStart => exact ⟨0, rfl, Nat.zero_le _, hmu0, HC6.out⟩
  case round =>
    clear hmu0
    obtain ⟨j, rfl, hj, hmu, hcw⟩ := hrel
    have HMU := Lib.hid hmu
    have HCW := Lib.hid hcw
    clear hmu hcw
    by_cases hjn : j < n
    · have hjl : j < lc.length := by rw [HLN.out]; exact hjn
      have j0 : (0 : Int) ≤ (j : Int) := by omega
      have j1 : (j : Int) < (n : Int) := by omega
      obtain ⟨gC, rfl, h7, h8⟩ := HMU.out.e.at j hjl
      have hat : ∀ u, MutE u (some ⟨gC, 0, none⟩) lc → u.cell? ⟨gC, j * 9 + 7, none⟩ = some (.slice lc[j].A lc[j].bs.length lc[j].c) ∧ u.cell? ⟨gC, j * 9 + 8, none⟩ = some (.slice lc[j].D lc[j].dl.length lc[j].dc) := fun u hu => by
        obtain ⟨g', e, h7, h8⟩ := hu.at j hjl
        cases e
        exact ⟨h7, h8⟩
      have hmem : lc[j] ∈ lc := List.getElem_mem _
      obtain ⟨q, hq⟩ : ∃ q, q = lc[j] := ⟨_, rfl⟩
      rw [← hq] at hat hmem
      have HAT := Lib.hid hat
      have HMEM := Lib.hid hmem
      obtain ⟨hbq, hdq⟩ := HBD.out q HMEM.out
      obtain ⟨qA, hqA⟩ : ∃ qA, qA = q.A := ⟨_, rfl⟩
      obtain ⟨qD, hqD⟩ : ∃ qD, qD = q.D := ⟨_, rfl⟩
      obtain ⟨bn, hbn⟩ : ∃ bn, bn = q.bs.length := ⟨_, rfl⟩
      obtain ⟨dnn, hdnn⟩ : ∃ dnn, dnn = q.dl.length := ⟨_, rfl⟩
      have hB : ∀ u, Muts w6.heap.size u (some ⟨gC, 0, none⟩) lc → MutB w6.heap.size u qA bn ∧ MutD w6.heap.size u qD dnn := fun u hu => by rw [hqA, hqD, hbn, hdnn]; exact ⟨hu.b q HMEM.out, hu.d q HMEM.out⟩
      have hAT2 : ∀ u, MutE u (some ⟨gC, 0, none⟩) lc → u.cell? ⟨gC, j * 9 + 7, none⟩ = some (.slice qA bn q.c) ∧ u.cell? ⟨gC, j * 9 + 8, none⟩ = some (.slice qD dnn q.dc) := fun u hu => by rw [hqA, hqD, hbn, hdnn]; exact HAT.out u hu
      rw [← hbn] at hbq
      rw [← hdnn] at hdq
      have HB := Lib.hid hB
      have HT := Lib.hid hAT2
      clear hat hmem hq hqA hqD hbn hdnn hB hAT2 h7 h8 HAT
      go_wp2_with fail
      go_loopw [20] (fun i w' => ∃ k : Nat, i = .int .i64 k ∧ k ≤ bn ∧ Muts w6.heap.size w' (some ⟨gC, 0, none⟩) lc ∧ Chg (fun _ => False) w6 w') (fun i _ => bn - (intOf i).toNat)
      case atStart => exact ⟨0, rfl, Nat.zero_le _, HMU.out, HCW.out⟩
      case round =>
        obtain ⟨k, rfl, hk, hmu, hcw⟩ := hrel
        have HMV := Lib.hid hmu
        have HCV := Lib.hid hcw
        clear hmu hcw
        have t7 := (HT.out wr HMV.out.e).1
        by_cases hkn : k < bn
        · obtain ⟨gA, cur, z, hA, hBg, hgA, hz, hfz⟩ := (HB.out wr HMV.out).1.at k hkn
          have HGA := Lib.hid hgA
          rw [hA] at t7
          have k0 : (0 : Int) ≤ (k : Int) := by omega
          have k1 : (k : Int) < (bn : Int) := by omega
          clear hA hgA
          go_wp2_with fail
          go_roundw
          case rel => exact ⟨k + 1, by go_num, hkn, HMV.out.setB HGA.out k _, HCV.out.setCell (p := ⟨gA, k, none⟩) (.inr hBg) _⟩
          case measure => simp [intOf]; omega
        · have k1 : ¬ (k : Int) < (bn : Int) := by omega
          go_wp2_with fail
          go_loopw [21] (fun i w' => ∃ k : Nat, i = .int .i64 k ∧ k ≤ dnn ∧ Muts w6.heap.size w' (some ⟨gC, 0, none⟩) lc ∧ Chg (fun _ => False) w6 w') (fun i _ => dnn - (intOf i).toNat)
          case atStart => exact ⟨0, rfl, Nat.zero_le _, HMV.out, HCV.out⟩
          case round =>
            clear t7
            obtain ⟨k3, rfl, hk3, hmu, hcw⟩ := hrel
            have HMX := Lib.hid hmu
            have HCX := Lib.hid hcw
            clear hmu hcw
            have t8 := (HT.out wr HMX.out.e).2
            by_cases hkd : k3 < dnn
            · obtain ⟨gD, cur, z, hA, hBg, hgD, hz, hfz⟩ := (HB.out wr HMX.out).2.at k3 hkd
              have HGD := Lib.hid hgD
              rw [hA] at t8
              have k0 : (0 : Int) ≤ (k3 : Int) := by omega
              have k4 : (k3 : Int) < (dnn : Int) := by omega
              clear hA hgD
              go_wp2_with fail
              go_roundw
              case rel => exact ⟨k3 + 1, by go_num, hkd, HMX.out.setD HGD.out _ _, HCX.out.setCell (p := ⟨gD, k3 * 3 + 1, none⟩) (.inr hBg) _⟩
              case measure => simp [intOf]; omega
            · have k4 : ¬ (k3 : Int) < (dnn : Int) := by omega
              go_wp2_with fail
              go_roundw
              case rel => exact ⟨j + 1, by go_num, hjn, HMX.out, HCX.out⟩
              case measure => simp [intOf]; omega
    · have j1 : ¬ (j : Int) < (n : Int) := by omega
      clear HMU
      have h4r := h46.trans HCW.out (fun x hx => hx.elim)
      have HM6 := Lib.hid HM.out
      obtain ⟨pb, hpb⟩ : ∃ pb : Bool, (pb = true ↔ fe.v = ff.v) := by classical exact ⟨decide (fe.v = ff.v), decide_eq_true_iff⟩
      obtain ⟨qb, hqb⟩ : ∃ qb : Bool, (qb = true ↔ l.map EvF.v = m.map EvF.v) := by classical exact ⟨decide (l.map EvF.v = m.map EvF.v), decide_eq_true_iff⟩
      have hs1 := fun (w' : World) (hw : Chg (fun _ => False) wr w') => (same_s fe ff w' (HE4.out.still (h4r.trans hw (fun x hx => hx.elim))) (HF4.out.still (h4r.trans hw (fun x hx => hx.elim)))).mono (R' := fun e w'' => e = .returned (.bool pb) ∧ Chg (fun _ => False) w' w'') (fun e w'' h => tells_as h hpb)
      have hs2 := fun (w' : World) (hw : Chg (fun _ => False) wr w') => (rsame_s fe ff w' (HE4.out.still (h4r.trans hw (fun x hx => hx.elim))) (HF4.out.still (h4r.trans hw (fun x hx => hx.elim)))).mono (R' := fun e w'' => e = .returned (.bool pb) ∧ Chg (fun _ => False) w' w'') (fun e w'' h => tells_as h hpb)
      have hrl := fun (w' : World) (hw : Chg (fun _ => False) wr w') => (HL6.out.still (HCW.out.trans hw (fun x hx => hx.elim))).rd
      have hrm := fun (w' : World) (hw : Chg (fun _ => False) wr w') => (HM6.out.still (HCW.out.trans hw (fun x hx => hx.elim))).rd
      have hs3 := fun (w' : World) (hw : Chg (fun _ => False) wr w') => (sameAll_any A A2 c c2 l m w' (hrl w' hw) (hrm w' hw) (by rw [← HN1.out]; omega) (by rw [← HMN.out]; omega)).mono (R' := fun e w'' => e = .returned (.bool qb) ∧ Chg (fun _ => False) w' w'') (fun e w'' h => tells_as h hqb)
      have hs4 := fun (w' : World) (hw : Chg (fun _ => False) wr w') => (rsameAll_any A A2 c c2 l m w' (hrl w' hw) (hrm w' hw) (by rw [← HN1.out]; omega) (by rw [← HMN.out]; omega)).mono (R' := fun e w'' => e = .returned (.bool qb) ∧ Chg (fun _ => False) w' w'') (fun e w'' h => tells_as h hqb)
      have hs5 := fun (w' : World) (hw : Chg (fun _ => False) wr w') => line_yes A n c l w' (hrl w' hw) HN1.out.symm (by omega) HCH.out.isLine
      have hs6 := fun (w' : World) (hw : Chg (fun _ => False) wr w') => copy_any fe w' (HE4.out.still (h4r.trans hw (fun x hx => hx.elim)))
      have hs7 := fun (w' w0 : World) (B : Nat) (hw : Chg (fun _ => False) wr w') (f' : EvF) (hok : CpyOk B w' f') (hv : f'.v = fe.v) => (same_s f' fe w' (hok.ev hv HE4.out) (HE4.out.still (h4r.trans hw (fun x hx => hx.elim)))).mono (R' := fun e w'' => e = .returned (.bool true) ∧ Chg (fun _ => False) w' w'') (fun e w'' h => tells_as h ⟨fun _ => hv, fun _ => rfl⟩)
      rw [← HN1.out, ← HMN.out] at hs3 hs4
      have HS1 := Lib.hid hs1
      have HS2 := Lib.hid hs2
      have HS3 := Lib.hid hs3
      have HS4 := Lib.hid hs4
      have HS5 := Lib.hid hs5
      have HS6 := Lib.hid hs6
      have HS7 := Lib.hid hs7
      have hbe := HBE.out.keep h4r (fun h => h)
      have hbf := HBF.out.keep h4r (fun h => h)
      have hS : ∀ w', Chg (fun _ => False) wr w' → w'.cell? ⟨ge, 0, none⟩ = some (.int .i64 fe.id) ∧ w'.cell? ⟨ge, 1, none⟩ = some (.int .i64 fe.ver) ∧ w'.cell? ⟨ge, 2, none⟩ = some (.int .i64 fe.tm) ∧ w'.cell? ⟨ge, 3, none⟩ = some (.int .i64 fe.ty) ∧ w'.cell? ⟨ge, 4, none⟩ = some (.int .i64 fe.node) ∧ w'.cell? ⟨ge, 5, none⟩ = some (.int .i64 fe.m) ∧ w'.cell? ⟨ge, 6, none⟩ = some (.string fe.nm) ∧ w'.cell? ⟨ge, 7, none⟩ = some (.slice fe.A fe.bs.length fe.c) ∧ w'.cell? ⟨ge, 8, none⟩ = some (.slice fe.D fe.dl.length fe.dc) ∧ w'.cell? ⟨gf, 0, none⟩ = some (.int .i64 ff.id) ∧ w'.cell? ⟨gf, 1, none⟩ = some (.int .i64 ff.ver) ∧ w'.cell? ⟨gf, 2, none⟩ = some (.int .i64 ff.tm) ∧ w'.cell? ⟨gf, 3, none⟩ = some (.int .i64 ff.ty) ∧ w'.cell? ⟨gf, 4, none⟩ = some (.int .i64 ff.node) ∧ w'.cell? ⟨gf, 5, none⟩ = some (.int .i64 ff.m) ∧ w'.cell? ⟨gf, 6, none⟩ = some (.string ff.nm) ∧ w'.cell? ⟨gf, 7, none⟩ = some (.slice ff.A ff.bs.length ff.c) ∧ w'.cell? ⟨gf, 8, none⟩ = some (.slice ff.D ff.dl.length ff.dc) := fun w' hw => ⟨(hbe.keep hw (fun h => h)).cell 0 rfl, (hbe.keep hw (fun h => h)).cell 1 rfl, (hbe.keep hw (fun h => h)).cell 2 rfl, (hbe.keep hw (fun h => h)).cell 3 rfl, (hbe.keep hw (fun h => h)).cell 4 rfl, (hbe.keep hw (fun h => h)).cell 5 rfl, (hbe.keep hw (fun h => h)).cell 6 rfl, (hbe.keep hw (fun h => h)).cell 7 rfl, (hbe.keep hw (fun h => h)).cell 8 rfl, (hbf.keep hw (fun h => h)).cell 0 rfl, (hbf.keep hw (fun h => h)).cell 1 rfl, (hbf.keep hw (fun h => h)).cell 2 rfl, (hbf.keep hw (fun h => h)).cell 3 rfl, (hbf.keep hw (fun h => h)).cell 4 rfl, (hbf.keep hw (fun h => h)).cell 5 rfl, (hbf.keep hw (fun h => h)).cell 6 rfl, (hbf.keep hw (fun h => h)).cell 7 rfl, (hbf.keep hw (fun h => h)).cell 8 rfl⟩
      have HS := Lib.hid hS
      have k0 : Chg (fun _ => False) wr wr.drew := (Chg.refl _ _).drew
      clear hs1 hs2 hs3 hs4 hs5 hs6 hs7 hrl hrm hbe hbf hS hpb hqb
      go_upto_region 25 with fail
      cases pb
      all_goals
        cases qb
        all_goals
          go_region_held3 (fun w' => w'.cell? ⟨ge, 0, none⟩ = some (.int .i64 fe.id) ∧ w'.cell? ⟨ge, 1, none⟩ = some (.int .i64 fe.ver) ∧ w'.cell? ⟨ge, 2, none⟩ = some (.int .i64 fe.tm) ∧ w'.cell? ⟨ge, 3, none⟩ = some (.int .i64 fe.ty) ∧ w'.cell? ⟨ge, 4, none⟩ = some (.int .i64 fe.node) ∧ w'.cell? ⟨ge, 5, none⟩ = some (.int .i64 fe.m) ∧ w'.cell? ⟨ge, 6, none⟩ = some (.string fe.nm) ∧ w'.cell? ⟨ge, 7, none⟩ = some (.slice fe.A fe.bs.length fe.c) ∧ w'.cell? ⟨ge, 8, none⟩ = some (.slice fe.D fe.dl.length fe.dc) ∧ w'.cell? ⟨gf, 0, none⟩ = some (.int .i64 ff.id) ∧ w'.cell? ⟨gf, 1, none⟩ = some (.int .i64 ff.ver) ∧ w'.cell? ⟨gf, 2, none⟩ = some (.int .i64 ff.tm) ∧ w'.cell? ⟨gf, 3, none⟩ = some (.int .i64 ff.ty) ∧ w'.cell? ⟨gf, 4, none⟩ = some (.int .i64 ff.node) ∧ w'.cell? ⟨gf, 5, none⟩ = some (.int .i64 ff.m) ∧ w'.cell? ⟨gf, 6, none⟩ = some (.string ff.nm) ∧ w'.cell? ⟨gf, 7, none⟩ = some (.slice ff.A ff.bs.length ff.c) ∧ w'.cell? ⟨gf, 8, none⟩ = some (.slice ff.D ff.dl.length ff.dc)) (first | with_reducible exact HS.out _ k7 | with_reducible exact HS.out _ k6 | with_reducible exact HS.out _ k5 | with_reducible exact HS.out _ k4 | with_reducible exact HS.out _ k3 | with_reducible exact HS.out _ k2 | with_reducible exact HS.out _ k1 | with_reducible exact HS.out _ k0) (first
            | (go_at_call 18; (with_reducible refine (HS7.out w16 w16 _ k6 _ hok hve).mono ?_); rintro e w17 ⟨rfl, hc7⟩; have k7 := k6.trans hc7 (fun x hx => hx.elim))
            | (go_at_call 24; (with_reducible refine (HS6.out w15 k5).mono ?_); rintro e w16 ⟨⟨id, ver, tm, ty, node, mm, nm, A7, c7, bs, D7, dc7, dl⟩, he, hok, hve, hc6⟩; simp only [EvF.val, EvF.row] at he; subst he; have k6 := k5.trans hc6 (fun x hx => hx.elim))
            | (go_at_call 23; (with_reducible refine (HS5.out w14 k4).mono ?_); rintro e w15 ⟨rfl, hc5⟩; have k5 := k4.trans hc5 (fun x hx => hx.elim))
            | (go_at_call 22; (with_reducible refine (HS4.out w13 k3).mono ?_); rintro e w14 ⟨rfl, hc4⟩; have k4 := k3.trans hc4 (fun x hx => hx.elim))
            | (go_at_call 21; (with_reducible refine (HS3.out w12 k2).mono ?_); rintro e w13 ⟨rfl, hc3⟩; have k3 := k2.trans hc3 (fun x hx => hx.elim))
            | (go_at_call 17; (with_reducible refine (HS2.out w11 k1).mono ?_); rintro e w12 ⟨rfl, hc2⟩; have k2 := k1.trans hc2 (fun x hx => hx.elim))
            | (go_at_call 18; (with_reducible refine (HS1.out _ k0).mono ?_); rintro e w11 ⟨rfl, hc1⟩; have k1 := k0.trans hc1 (fun x hx => hx.elim))
            | fail)
          all_goals
            go_wp2_with fail
            go_ret
            exact ⟨rfl, (HC4.out.trans h4r (fun x hx => hx.elim)).trans k7 (fun x hx => hx.elim)⟩
end Go.Proofs.YtngfimjbgopgjaaDoor.eventSame
