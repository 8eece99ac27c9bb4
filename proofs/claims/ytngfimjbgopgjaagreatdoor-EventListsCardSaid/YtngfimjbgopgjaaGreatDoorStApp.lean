/- Contract of cutoverref11.Apply (gen_apply.py): an event taken, or refused. -/
import Derived.Test.YtngfimjbgopgjaaGreatDoorStAppP
namespace Go.Proofs.YtngfimjbgopgjaaGreatDoor
open Go.RowKit
set_option linter.unusedVariables false

set_option maxHeartbeats 8000000 in
set_option maxRecDepth 20000 in
theorem apply_any (S : Nat → Prop) (s : StV) (f : EvF) (w : World) (hSl : ∀ x, S x → x < w.heap.size) (hSt : ∀ u, Chg S w u → StOk u s) (hEv : ∀ u, Chg S w u → EvS u f) (h8 : TlOk s.tl) (hs : s.sl.length ≤ 1000) (h0 : 0 ≤ s.id) (h2 : s.id ≤ 200) :
    Calls Tryz.prog 92 #[s.val, f.val] w (Applied S s f w) := by
  have h := hSt w (Chg.refl _ _)
  have hf := hEv w (Chg.refl _ _)
  have HST := Lib.hid hSt
  have HEV := Lib.hid hEv
  have HSL := Lib.hid hSl
  clear hSt hEv hSl
  have e1 : IntKind.i64.wrap (s.id + 1) = s.id + 1 := IntWalk.i64_in _ (by omega)
  have HH := Lib.hid h
  have HF := Lib.hid hf
  clear h hf
  unfold StV.val StV.row EvF.val EvF.row
  obtain ⟨w1, hw1⟩ : ∃ w1, w1 = w.alloc (.cells #[.int .i64 s.id, .int .i64 s.ver, .int .i64 s.tm, .int .i64 s.cl, .bool s.ca, .slice s.D s.dl.length s.dc, .slice s.N s.nl.length s.nc, .slice s.T s.tl.length s.tc, .slice s.S s.sl.length s.sc] 78) := ⟨_, rfl⟩
  obtain ⟨w2, hw2⟩ : ∃ w2, w2 = w1.alloc (.cells #[.int .i64 f.id, .int .i64 f.ver, .int .i64 f.tm, .int .i64 f.ty, .int .i64 f.node, .int .i64 f.m, .string f.nm, .slice f.A f.bs.length f.c, .slice f.D f.dl.length f.dc] 32) := ⟨_, rfl⟩
  obtain ⟨w3, hw3⟩ : ∃ w3, w3 = w2.alloc (.cells #[.int .i64 0, .int .i64 0, .int .i64 0, .int .i64 0, .bool false, .slice none 0 0, .slice none 0 0, .slice none 0 0, .slice none 0 0] 78) := ⟨_, rfl⟩
  obtain ⟨w4, hw4⟩ : ∃ w4, w4 = w3.alloc (.cells #[.int .i64 0, .int .i64 0, .int .i64 0, .int .i64 0, .bool false, .slice none 0 0, .slice none 0 0, .slice none 0 0, .slice none 0 0] 78) := ⟨_, rfl⟩
  obtain ⟨p, hp⟩ : ∃ p, p = w.heap.size := ⟨_, rfl⟩
  have z1 : w1.heap.size = p + 1 := by rw [hw1, hp]; simp
  have z2 : w2.heap.size = p + 2 := by rw [hw2]; simp [z1]
  have z3 : w3.heap.size = p + 3 := by rw [hw3]; simp [z2]
  have z4 : w4.heap.size = p + 4 := by rw [hw4]; simp [z3]
  have c1 : Chg (fun _ => False) w w1 := by rw [hw1]; exact (Chg.refl _ _).alloc _
  have c2 : Chg (fun _ => False) w1 w2 := by rw [hw2]; exact (Chg.refl _ _).alloc _
  have c3 : Chg (fun _ => False) w2 w3 := by rw [hw3]; exact (Chg.refl _ _).alloc _
  have c4 : Chg (fun _ => False) w3 w4 := by rw [hw4]; exact (Chg.refl _ _).alloc _
  have bP : BoxAt w4 p 78 #[.int .i64 s.id, .int .i64 s.ver, .int .i64 s.tm, .int .i64 s.cl, .bool s.ca, .slice s.D s.dl.length s.dc, .slice s.N s.nl.length s.nc, .slice s.T s.tl.length s.tc, .slice s.S s.sl.length s.sc] := by
    have b := BoxAt.new w 78 #[.int .i64 s.id, .int .i64 s.ver, .int .i64 s.tm, .int .i64 s.cl, .bool s.ca, .slice s.D s.dl.length s.dc, .slice s.N s.nl.length s.nc, .slice s.T s.tl.length s.tc, .slice s.S s.sl.length s.sc]
    rw [← hw1, ← hp] at b
    exact ((b.keep c2 (fun h => h)).keep c3 (fun h => h)).keep c4 (fun h => h)
  have bE : BoxAt w4 (p + 1) 32 #[.int .i64 f.id, .int .i64 f.ver, .int .i64 f.tm, .int .i64 f.ty, .int .i64 f.node, .int .i64 f.m, .string f.nm, .slice f.A f.bs.length f.c, .slice f.D f.dl.length f.dc] := by
    have b := BoxAt.new w1 32 #[.int .i64 f.id, .int .i64 f.ver, .int .i64 f.tm, .int .i64 f.ty, .int .i64 f.node, .int .i64 f.m, .string f.nm, .slice f.A f.bs.length f.c, .slice f.D f.dl.length f.dc]
    rw [← hw2, z1] at b
    exact (b.keep c3 (fun h => h)).keep c4 (fun h => h)
  have bZ : BoxAt w4 (p + 2) 78 #[.int .i64 0, .int .i64 0, .int .i64 0, .int .i64 0, .bool false, .slice none 0 0, .slice none 0 0, .slice none 0 0, .slice none 0 0] := by
    have b := BoxAt.new w2 78 #[.int .i64 0, .int .i64 0, .int .i64 0, .int .i64 0, .bool false, .slice none 0 0, .slice none 0 0, .slice none 0 0, .slice none 0 0]
    rw [← hw3, z2] at b
    exact b.keep c4 (fun h => h)
  have bO : BoxAt w4 (p + 3) 78 #[.int .i64 0, .int .i64 0, .int .i64 0, .int .i64 0, .bool false, .slice none 0 0, .slice none 0 0, .slice none 0 0, .slice none 0 0] := by
    have b := BoxAt.new w3 78 #[.int .i64 0, .int .i64 0, .int .i64 0, .int .i64 0, .bool false, .slice none 0 0, .slice none 0 0, .slice none 0 0, .slice none 0 0]
    rwa [← hw4, z3] at b
  have hc0 : Chg (fun _ => False) w w4 := ((c1.trans c2 (fun x hx => hx.elim)).trans c3 (fun x hx => hx.elim)).trans c4 (fun x hx => hx.elim)
  clear z1 z2 z3 c1 c2 c3 c4
  have HZ4 := Lib.hid z4
  have HPS := Lib.hid hp
  go_enter Tryz.func92, Tryz.ntmps92
  go_upto_region 2 with fail
  rw [← hp]
  rw [← hw1, ← hw2, ← hw3, ← hw4]
  clear hw1 hw2 hw3 hw4
  obtain ⟨gE, hgE⟩ : ∃ gE, gE = p + 1 := ⟨_, rfl⟩
  obtain ⟨gZ, hgZ⟩ : ∃ gZ, gZ = gE + 1 := ⟨_, rfl⟩
  obtain ⟨gO, hgO⟩ : ∃ gO, gO = gZ + 1 := ⟨_, rfl⟩
  rw [show p + 2 = gZ by omega] at bZ
  rw [show p + 3 = gO by omega] at bO
  rw [← hgE] at bE ⊢
  rw [← hgZ, ← hgO]
  have n1 : p ≠ gE := by omega
  have n2 : gE ≠ p := by omega
  have n3 : p ≠ gZ := by omega
  have n4 : gZ ≠ p := by omega
  have n5 : p ≠ gO := by omega
  have n6 : gO ≠ p := by omega
  have HGE := Lib.hid hgE
  have HGZ := Lib.hid hgZ
  have HGO := Lib.hid hgO
  have hpl : w.heap.size ≤ p := Nat.le_of_eq hp.symm
  have hzl : w.heap.size ≤ gZ := by omega
  have hpl4 : p < w4.heap.size := by omega
  have hnew : ∀ x, x = p → False ∨ w.heap.size ≤ x := fun x hx => .inr (by rw [hx]; exact hpl)
  have hnewZ : ∀ x, x = gZ → False ∨ w.heap.size ≤ x := fun x hx => .inr (by rw [hx]; exact hzl)
  clear hgE hgZ hgO hp
  go_cut [33] from 9 to 32 (fun v w' => (∃ b : Bool, v = .bool b ∧ (b = false → f.right = true ∧ f.id = s.id + 1 ∧ s.ver ≤ f.ver ∧ s.tm ≤ f.tm)) ∧ Chg (fun _ => False) w4 w')
  case first =>
    have r0 : w4.cell? ⟨p, 0, none⟩ = some (.int .i64 s.id) := bP.cell 0 rfl
    have r1 : w4.cell? ⟨p, 1, none⟩ = some (.int .i64 s.ver) := bP.cell 1 rfl
    have r2 : w4.cell? ⟨p, 2, none⟩ = some (.int .i64 s.tm) := bP.cell 2 rfl
    have q0 : w4.cell? ⟨gE, 0, none⟩ = some (.int .i64 f.id) := bE.cell 0 rfl
    have q1 : w4.cell? ⟨gE, 1, none⟩ = some (.int .i64 f.ver) := bE.cell 1 rfl
    have q2 : w4.cell? ⟨gE, 2, none⟩ = some (.int .i64 f.tm) := bE.cell 2 rfl
    have q3 : w4.cell? ⟨gE, 3, none⟩ = some (.int .i64 f.ty) := bE.cell 3 rfl
    have q4 : w4.cell? ⟨gE, 4, none⟩ = some (.int .i64 f.node) := bE.cell 4 rfl
    have q5 : w4.cell? ⟨gE, 5, none⟩ = some (.int .i64 f.m) := bE.cell 5 rfl
    have q6 : w4.cell? ⟨gE, 6, none⟩ = some (.string f.nm) := bE.cell 6 rfl
    have q7 : w4.cell? ⟨gE, 7, none⟩ = some (.slice f.A f.bs.length f.c) := bE.cell 7 rfl
    have q8 : w4.cell? ⟨gE, 8, none⟩ = some (.slice f.D f.dl.length f.dc) := bE.cell 8 rfl
    have hr := rright_s f w4 (HF.out.still hc0)
    obtain ⟨r, hre⟩ : ∃ r, r = f.right := ⟨_, rfl⟩
    rw [← hre] at hr
    have HRE := Lib.hid hre
    clear hre
    obtain ⟨id, hid⟩ : ∃ id, id = f.id := ⟨_, rfl⟩
    obtain ⟨ver, hver⟩ : ∃ ver, ver = f.ver := ⟨_, rfl⟩
    obtain ⟨tm, htm⟩ : ∃ tm, tm = f.tm := ⟨_, rfl⟩
    obtain ⟨si, hsi⟩ : ∃ si, si = s.id := ⟨_, rfl⟩
    obtain ⟨sv, hsv⟩ : ∃ sv, sv = s.ver := ⟨_, rfl⟩
    obtain ⟨stm, hst⟩ : ∃ stm, stm = s.tm := ⟨_, rfl⟩
    rw [← hid] at q0 hr
    rw [← hver] at q1 hr
    rw [← htm] at q2 hr
    rw [← hsi] at r0 e1
    rw [← hsv] at r1
    rw [← hst] at r2
    have HF1 := Lib.hid (show id = si + 1 → sv ≤ ver → stm ≤ tm → r = true → f.right = true ∧ f.id = s.id + 1 ∧ s.ver ≤ f.ver ∧ s.tm ≤ f.tm by rw [hid, hver, htm, hsi, hsv, hst]; exact fun a b c d => ⟨by rw [← HRE.out]; exact d, a, b, c⟩)
    clear hid hver htm hsi hsv hst bP bE bZ bO HRE
    cases r
    · go_wp2_with (go_at_call 29; go_must (refine hr.mono ?_; rintro e wR ⟨rfl, hcR⟩))
      go_meet
      exact ⟨⟨_, rfl, fun h => (by cases h)⟩, hcR⟩
    have hk : ∀ w', Chg (fun _ => False) w4 w' → (w'.cell? ⟨p, 0, none⟩ = some (.int .i64 si) ∧ w'.cell? ⟨p, 1, none⟩ = some (.int .i64 sv) ∧ w'.cell? ⟨p, 2, none⟩ = some (.int .i64 stm) ∧ w'.cell? ⟨gE, 0, none⟩ = some (.int .i64 id) ∧ w'.cell? ⟨gE, 1, none⟩ = some (.int .i64 ver) ∧ w'.cell? ⟨gE, 2, none⟩ = some (.int .i64 tm)) := fun w' hc => ⟨hc.cell_some r0 (fun h => h), hc.cell_some r1 (fun h => h), hc.cell_some r2 (fun h => h), hc.cell_some q0 (fun h => h), hc.cell_some q1 (fun h => h), hc.cell_some q2 (fun h => h)⟩
    have HK := Lib.hid hk
    clear hk
    by_cases hi : id = si + 1
    rotate_left
    · have f1 : (id != si + 1) = true := by simpa using hi
      have f2 : decide (id = si + 1) = false := by simpa using hi
      clear hi
      go_wp2_with (go_at_call 29; go_must (refine hr.mono ?_; rintro e wR ⟨rfl, hcR⟩; obtain ⟨x0, x1, x2, x3, x4, x5⟩ := HK.out _ hcR))
      go_meet
      exact ⟨⟨_, rfl, fun h => (by cases h)⟩, hcR⟩
    have HI := Lib.hid hi
    have f1 : (id != si + 1) = false := by simpa using hi
    have f2 : decide (id = si + 1) = true := by simpa using hi
    clear hi
    by_cases hv : ver < sv
    · have f3 : decide (ver < sv) = true := by simpa using hv
      go_wp2_with (go_at_call 29; go_must (refine hr.mono ?_; rintro e wR ⟨rfl, hcR⟩; obtain ⟨x0, x1, x2, x3, x4, x5⟩ := HK.out _ hcR))
      go_meet
      exact ⟨⟨_, rfl, fun h => (by cases h)⟩, hcR⟩
    have f3 : decide (ver < sv) = false := by simpa using hv
    by_cases ht : tm < stm
    · have f4 : decide (tm < stm) = true := by simpa using ht
      go_wp2_with (go_at_call 29; go_must (refine hr.mono ?_; rintro e wR ⟨rfl, hcR⟩; obtain ⟨x0, x1, x2, x3, x4, x5⟩ := HK.out _ hcR))
      go_meet
      exact ⟨⟨_, rfl, fun h => (by cases h)⟩, hcR⟩
    have f4 : decide (tm < stm) = false := by simpa using ht
    go_wp2_with (go_at_call 29; go_must (refine hr.mono ?_; rintro e wR ⟨rfl, hcR⟩; obtain ⟨x0, x1, x2, x3, x4, x5⟩ := HK.out _ hcR))
    go_meet
    exact ⟨⟨_, rfl, fun _ => HF1.out HI.out (by omega) (by omega) (by first | rfl | trivial)⟩, hcR⟩
  case rest =>
    obtain ⟨⟨b, rfl, hb⟩, hcA⟩ := hcut
    have bP1 := bP.keep hcA (fun h => h)
    have bE1 := bE.keep hcA (fun h => h)
    have bZ1 := bZ.keep hcA (fun h => h)
    have bO1 := bO.keep hcA (fun h => h)
    have hc1 := hc0.trans hcA (fun x hx => hx.elim)
    have hsz := hcA.size
    clear bP bE bZ bO hcA hc0
    cases b
    rotate_left
    · clear hb
      have o0 : wc.cell? ⟨gO, 0, none⟩ = some (.int .i64 0) := bO1.cell 0 rfl
      have o1 : wc.cell? ⟨gO, 1, none⟩ = some (.int .i64 0) := bO1.cell 1 rfl
      have o2 : wc.cell? ⟨gO, 2, none⟩ = some (.int .i64 0) := bO1.cell 2 rfl
      have o3 : wc.cell? ⟨gO, 3, none⟩ = some (.int .i64 0) := bO1.cell 3 rfl
      have o4 : wc.cell? ⟨gO, 4, none⟩ = some (.bool false) := bO1.cell 4 rfl
      have o5 : wc.cell? ⟨gO, 5, none⟩ = some (.slice none 0 0) := bO1.cell 5 rfl
      have o6 : wc.cell? ⟨gO, 6, none⟩ = some (.slice none 0 0) := bO1.cell 6 rfl
      have o7 : wc.cell? ⟨gO, 7, none⟩ = some (.slice none 0 0) := bO1.cell 7 rfl
      have o8 : wc.cell? ⟨gO, 8, none⟩ = some (.slice none 0 0) := bO1.cell 8 rfl
      have t0 : wc.cell? ⟨gZ, 0, none⟩ = some (.int .i64 0) := bZ1.cell 0 rfl
      have t1 : wc.cell? ⟨gZ, 1, none⟩ = some (.int .i64 0) := bZ1.cell 1 rfl
      have t2 : wc.cell? ⟨gZ, 2, none⟩ = some (.int .i64 0) := bZ1.cell 2 rfl
      have t3 : wc.cell? ⟨gZ, 3, none⟩ = some (.int .i64 0) := bZ1.cell 3 rfl
      have t4 : wc.cell? ⟨gZ, 4, none⟩ = some (.bool false) := bZ1.cell 4 rfl
      have t5 : wc.cell? ⟨gZ, 5, none⟩ = some (.slice none 0 0) := bZ1.cell 5 rfl
      have t6 : wc.cell? ⟨gZ, 6, none⟩ = some (.slice none 0 0) := bZ1.cell 6 rfl
      have t7 : wc.cell? ⟨gZ, 7, none⟩ = some (.slice none 0 0) := bZ1.cell 7 rfl
      have t8 : wc.cell? ⟨gZ, 8, none⟩ = some (.slice none 0 0) := bZ1.cell 8 rfl
      have z0 := bZ1.fz 0
      have z1 := bZ1.fz 1
      have z2 := bZ1.fz 2
      have z3 := bZ1.fz 3
      have z4 := bZ1.fz 4
      have z5 := bZ1.fz 5
      have z6 := bZ1.fz 6
      have z7 := bZ1.fz 7
      have z8 := bZ1.fz 8
      go_wp2_with fail
      (try simp only [Exit.inBlock, Exit.then])
      refine bodyPost_ret (results_cell_row_tmp rfl _ _ gZ _ _ _ _ rfl (BoxAt.set9 bZ1 _ _ _ _ _ _ _ _ _) Tryz.underlying78 rfl stSize) rfl ?_
      exact Applied.no 1 (by decide) (hc1.trans (chg_set9 _ _ _ _ _ _ _ _ _ _ _) hnewZ)
    obtain ⟨hfr, hfi, hfv, hft⟩ := hb rfl
    have HFR := Lib.hid hfr
    have HFI := Lib.hid (And.intro hfi (And.intro hfv hft))
    clear hb hfr hfi hfv hft
    go_upto_region 4 with fail
    go_cut [37] from 9 to 36 (fun v w' => (∃ b : Bool, v = .bool b) ∧ w' = wc)
    case first =>
      have r3 : wc.cell? ⟨p, 3, none⟩ = some (.int .i64 s.cl) := bP1.cell 3 rfl
      go_wp2_with fail
      go_meet
      exact ⟨⟨_, rfl⟩, rfl⟩
    obtain ⟨⟨b, rfl⟩, rfl⟩ := hcut
    cases b
    rotate_left
    · skip
      have o0 : wc.cell? ⟨gO, 0, none⟩ = some (.int .i64 0) := bO1.cell 0 rfl
      have o1 : wc.cell? ⟨gO, 1, none⟩ = some (.int .i64 0) := bO1.cell 1 rfl
      have o2 : wc.cell? ⟨gO, 2, none⟩ = some (.int .i64 0) := bO1.cell 2 rfl
      have o3 : wc.cell? ⟨gO, 3, none⟩ = some (.int .i64 0) := bO1.cell 3 rfl
      have o4 : wc.cell? ⟨gO, 4, none⟩ = some (.bool false) := bO1.cell 4 rfl
      have o5 : wc.cell? ⟨gO, 5, none⟩ = some (.slice none 0 0) := bO1.cell 5 rfl
      have o6 : wc.cell? ⟨gO, 6, none⟩ = some (.slice none 0 0) := bO1.cell 6 rfl
      have o7 : wc.cell? ⟨gO, 7, none⟩ = some (.slice none 0 0) := bO1.cell 7 rfl
      have o8 : wc.cell? ⟨gO, 8, none⟩ = some (.slice none 0 0) := bO1.cell 8 rfl
      have t0 : wc.cell? ⟨gZ, 0, none⟩ = some (.int .i64 0) := bZ1.cell 0 rfl
      have t1 : wc.cell? ⟨gZ, 1, none⟩ = some (.int .i64 0) := bZ1.cell 1 rfl
      have t2 : wc.cell? ⟨gZ, 2, none⟩ = some (.int .i64 0) := bZ1.cell 2 rfl
      have t3 : wc.cell? ⟨gZ, 3, none⟩ = some (.int .i64 0) := bZ1.cell 3 rfl
      have t4 : wc.cell? ⟨gZ, 4, none⟩ = some (.bool false) := bZ1.cell 4 rfl
      have t5 : wc.cell? ⟨gZ, 5, none⟩ = some (.slice none 0 0) := bZ1.cell 5 rfl
      have t6 : wc.cell? ⟨gZ, 6, none⟩ = some (.slice none 0 0) := bZ1.cell 6 rfl
      have t7 : wc.cell? ⟨gZ, 7, none⟩ = some (.slice none 0 0) := bZ1.cell 7 rfl
      have t8 : wc.cell? ⟨gZ, 8, none⟩ = some (.slice none 0 0) := bZ1.cell 8 rfl
      have z0 := bZ1.fz 0
      have z1 := bZ1.fz 1
      have z2 := bZ1.fz 2
      have z3 := bZ1.fz 3
      have z4 := bZ1.fz 4
      have z5 := bZ1.fz 5
      have z6 := bZ1.fz 6
      have z7 := bZ1.fz 7
      have z8 := bZ1.fz 8
      go_wp2_with fail
      (try simp only [Exit.inBlock, Exit.then])
      refine bodyPost_ret (results_cell_row_tmp rfl _ _ gZ _ _ _ _ rfl (BoxAt.set9 bZ1 _ _ _ _ _ _ _ _ _) Tryz.underlying78 rfl stSize) rfl ?_
      exact Applied.no 12 (by decide) (hc1.trans (chg_set9 _ _ _ _ _ _ _ _ _ _ _) hnewZ)
    go_upto_region 6 with fail
    go_cut [45] from 9 to 44 (fun v w' => (∃ b : Bool, v = .bool b) ∧ w' = wc)
    case first =>
      have r0 : wc.cell? ⟨p, 0, none⟩ = some (.int .i64 s.id) := bP1.cell 0 rfl
      have q3 : wc.cell? ⟨gE, 3, none⟩ = some (.int .i64 f.ty) := bE1.cell 3 rfl
      go_wp2_with fail
      go_meet
      exact ⟨⟨_, rfl⟩, rfl⟩
    obtain ⟨⟨b, rfl⟩, rfl⟩ := hcut
    cases b
    rotate_left
    · skip
      have o0 : wc.cell? ⟨gO, 0, none⟩ = some (.int .i64 0) := bO1.cell 0 rfl
      have o1 : wc.cell? ⟨gO, 1, none⟩ = some (.int .i64 0) := bO1.cell 1 rfl
      have o2 : wc.cell? ⟨gO, 2, none⟩ = some (.int .i64 0) := bO1.cell 2 rfl
      have o3 : wc.cell? ⟨gO, 3, none⟩ = some (.int .i64 0) := bO1.cell 3 rfl
      have o4 : wc.cell? ⟨gO, 4, none⟩ = some (.bool false) := bO1.cell 4 rfl
      have o5 : wc.cell? ⟨gO, 5, none⟩ = some (.slice none 0 0) := bO1.cell 5 rfl
      have o6 : wc.cell? ⟨gO, 6, none⟩ = some (.slice none 0 0) := bO1.cell 6 rfl
      have o7 : wc.cell? ⟨gO, 7, none⟩ = some (.slice none 0 0) := bO1.cell 7 rfl
      have o8 : wc.cell? ⟨gO, 8, none⟩ = some (.slice none 0 0) := bO1.cell 8 rfl
      have t0 : wc.cell? ⟨gZ, 0, none⟩ = some (.int .i64 0) := bZ1.cell 0 rfl
      have t1 : wc.cell? ⟨gZ, 1, none⟩ = some (.int .i64 0) := bZ1.cell 1 rfl
      have t2 : wc.cell? ⟨gZ, 2, none⟩ = some (.int .i64 0) := bZ1.cell 2 rfl
      have t3 : wc.cell? ⟨gZ, 3, none⟩ = some (.int .i64 0) := bZ1.cell 3 rfl
      have t4 : wc.cell? ⟨gZ, 4, none⟩ = some (.bool false) := bZ1.cell 4 rfl
      have t5 : wc.cell? ⟨gZ, 5, none⟩ = some (.slice none 0 0) := bZ1.cell 5 rfl
      have t6 : wc.cell? ⟨gZ, 6, none⟩ = some (.slice none 0 0) := bZ1.cell 6 rfl
      have t7 : wc.cell? ⟨gZ, 7, none⟩ = some (.slice none 0 0) := bZ1.cell 7 rfl
      have t8 : wc.cell? ⟨gZ, 8, none⟩ = some (.slice none 0 0) := bZ1.cell 8 rfl
      have z0 := bZ1.fz 0
      have z1 := bZ1.fz 1
      have z2 := bZ1.fz 2
      have z3 := bZ1.fz 3
      have z4 := bZ1.fz 4
      have z5 := bZ1.fz 5
      have z6 := bZ1.fz 6
      have z7 := bZ1.fz 7
      have z8 := bZ1.fz 8
      go_wp2_with fail
      (try simp only [Exit.inBlock, Exit.then])
      refine bodyPost_ret (results_cell_row_tmp rfl _ _ gZ _ _ _ _ rfl (BoxAt.set9 bZ1 _ _ _ _ _ _ _ _ _) Tryz.underlying78 rfl stSize) rfl ?_
      exact Applied.no 4 (by decide) (hc1.trans (chg_set9 _ _ _ _ _ _ _ _ _ _ _) hnewZ)
    go_upto_region 8 with fail
    go_cut [7] from 9 to 51 (fun _ w' => ∃ s1 : StV, BoxAt w' p 78 #[.int .i64 s1.id, .int .i64 s1.ver, .int .i64 s1.tm, .int .i64 s1.cl, .bool s1.ca, .slice s1.D s1.dl.length s1.dc, .slice s1.N s1.nl.length s1.nc, .slice s1.T s1.tl.length s1.tc, .slice s1.S s1.sl.length s1.sc] ∧ StNew S w p s1 w' ∧ TlOk s1.tl ∧ s1.sl.length ≤ s.sl.length ∧ Chg (· = p) wc w')
    case first =>
      obtain ⟨i0, hi, hz0, hz1, hz2⟩ := info_parts ndInfo
      have hn8 : s.nl.length ≤ 8 := by rw [← HH.out.dn]; exact HH.out.d8
      have r6 : (wc.alloc (.cells #[] 114)).cell? ⟨p, 6, none⟩ = some (.slice s.N s.nl.length s.nc) := (bP1.keep ((Chg.refl (fun _ => False) _).alloc _) (fun h => h)).cell 6 rfl
      have hmade : (wc.alloc (.cells #[] 114)).ownsRow wc.heap.size 114 4 (.slice (some ⟨wc.heap.size, 0, none⟩) 0 0) 0 [] := World.ownsRow_made wc #[] 0 (Nat.le_refl _) (by decide) rfl
      have hl1 : 0 + s.nl.length ≤ maxLen := by simp only [maxLen]; omega
      have hl2 : (0 + s.nl.length) * 48 ≤ 140737488355328 := by omega
      have hRN := HH.out.nd.keep hc1 (fun _ _ h => h)
      go_wp2_with (at_builtin; refine wpList_append_rd _ rfl (.tmp 47) (.tmp 49) 74 rfl wc.heap.size 114 i0 _ 4 48 Tryz.underlying74 hi hz0 hz1 hz2 rfl (by decide) _ 0 0 [] rfl hmade s.N s.nl.length s.nc (ndC s.nl) rfl (ndC_len _) (hRN.alloc _) (ndC_one _) hl1 hl2 (by simp) ?_; intro A2 c2 w5 hown2 hg2 hb2; have hcN := chg_made hg2; have bP2 := bP1.keep hcN (fun h => h); have p6 : w5.cell? ⟨p, 6, none⟩ = some (.slice s.N s.nl.length s.nc) := bP2.cell 6 rfl; have y6 := bP2.fz 6)
      go_meet
      simp only [Nat.zero_add, List.nil_append] at hown2 ⊢
      have hS := chg_put w5 p 6 (.slice A2 s.nl.length c2)
      have hApp : ∀ x, In A2 x → x ≠ p := fun x hx e => by have h1 := (own_lt hown2 hx).1; have h2 := bP1.lt; omega
      have hown3 := hS.ownS hown2 (fun x hx e => hApp x hx e)
      have hcS := hcN.mono (T := (· = p)) (fun x h => h.elim)
      have hcT := hcS.trans hS (fun x hx => .inl hx)
      have hcw : Chg (fun _ => False) w _ := hc1.trans hcT hnew
      exact ⟨⟨s.id, s.ver, s.tm, s.cl, s.ca, s.D, s.dl, s.dc, A2, s.nl, c2, s.T, s.tl, s.tc, s.S, s.sl, s.sc⟩, by simpa using bP2.set 6 (.slice A2 s.nl.length c2), ⟨⟨HH.out.ds.still hcw, Rd.of_own hown3, HH.out.tm.keep hcw (fun _ _ h => h), HH.out.sg.keep hcw (fun _ _ h => h), HH.out.dn, HH.out.d8, HH.out.ns, HH.out.tn, HH.out.sn⟩, fun Q w' h1 h2 => by
        have h3 := HST.out w' ((hcw.mono (fun x h => h.elim)).trans h1 h2)
        exact ⟨h3.ds, h3.tm, h3.sg⟩, own_mono hown3 hc1.size, fun x hx => by have h1 := (own_lt hown2 hx).1; have h2 := HZ4.out; omega, hpl, HSL.out⟩, h8, Nat.le_refl _, hcT⟩
    obtain ⟨s1, bP2, hN1, h81, hs1, hcB⟩ := hcut
    have bE2 := bE1.keep hcB n2
    have bZ2 := bZ1.keep hcB n4
    have bO2 := bO1.keep hcB n6
    have hc2 := hc1.trans hcB hnew
    have hwc := hc2.size
    have hsz2 : p + 3 < wc.heap.size := by have h1 := HZ4.out; have h2 := hcB.size; omega
    clear bP1 bE1 bZ1 bO1 hcB hc1
    have HN1 := Lib.hid hN1
    clear hN1
    have hty := (EvF.parts HFR.out).2.2.2.1
    obtain ⟨ty, hte⟩ : ∃ ty, ty = f.ty := ⟨_, rfl⟩
    have q3 : wc.cell? ⟨gE, 3, none⟩ = some (.int .i64 ty) := by rw [hte]; exact bE2.cell 3 rfl
    rw [← hte] at hty
    have HTE := Lib.hid hte
    clear hte
    go_upto_block 0 with fail
    go_cut [7] from 52 to 140 (fun v w' => SwRel S s p wc v w')
    case first =>
      have r0 : wc.cell? ⟨p, 0, none⟩ = some (.int .i64 s1.id) := bP2.cell 0 rfl
      have r1 : wc.cell? ⟨p, 1, none⟩ = some (.int .i64 s1.ver) := bP2.cell 1 rfl
      have r2 : wc.cell? ⟨p, 2, none⟩ = some (.int .i64 s1.tm) := bP2.cell 2 rfl
      have r3 : wc.cell? ⟨p, 3, none⟩ = some (.int .i64 s1.cl) := bP2.cell 3 rfl
      have r4 : wc.cell? ⟨p, 4, none⟩ = some (.bool s1.ca) := bP2.cell 4 rfl
      have r5 : wc.cell? ⟨p, 5, none⟩ = some (.slice s1.D s1.dl.length s1.dc) := bP2.cell 5 rfl
      have r6 : wc.cell? ⟨p, 6, none⟩ = some (.slice s1.N s1.nl.length s1.nc) := bP2.cell 6 rfl
      have r7 : wc.cell? ⟨p, 7, none⟩ = some (.slice s1.T s1.tl.length s1.tc) := bP2.cell 7 rfl
      have r8 : wc.cell? ⟨p, 8, none⟩ = some (.slice s1.S s1.sl.length s1.sc) := bP2.cell 8 rfl
      have y3 := bP2.fz 3
      have y4 := bP2.fz 4
      have hSk : ∀ w', Chg (fun _ => False) wc w' → (w'.cell? ⟨p, 0, none⟩ = some (.int .i64 s1.id) ∧ w'.cell? ⟨p, 1, none⟩ = some (.int .i64 s1.ver) ∧ w'.cell? ⟨p, 2, none⟩ = some (.int .i64 s1.tm) ∧ w'.cell? ⟨p, 3, none⟩ = some (.int .i64 s1.cl) ∧ w'.cell? ⟨p, 4, none⟩ = some (.bool s1.ca) ∧ w'.cell? ⟨p, 5, none⟩ = some (.slice s1.D s1.dl.length s1.dc) ∧ w'.cell? ⟨p, 6, none⟩ = some (.slice s1.N s1.nl.length s1.nc) ∧ w'.cell? ⟨p, 7, none⟩ = some (.slice s1.T s1.tl.length s1.tc) ∧ w'.cell? ⟨p, 8, none⟩ = some (.slice s1.S s1.sl.length s1.sc)) := fun w' hc => ⟨hc.cell_some r0 (fun h => h), hc.cell_some r1 (fun h => h), hc.cell_some r2 (fun h => h), hc.cell_some r3 (fun h => h), hc.cell_some r4 (fun h => h), hc.cell_some r5 (fun h => h), hc.cell_some r6 (fun h => h), hc.cell_some r7 (fun h => h), hc.cell_some r8 (fun h => h)⟩
      have HSK := Lib.hid hSk
      have hcnt := fun (k : Int) (w' : World) (hc : Chg (fun _ => False) wc w') => count_any s1 k w' (HN1.out.ok.still hc)
      unfold StV.val StV.row at hcnt
      have HC := Lib.hid hcnt
      clear hcnt hSk
      have CLOSE : ∀ (k c : Int) w', Chg (fun _ => False) wc w' → SwRel S s p wc (.int .i64 k) (w'.setCell ⟨p, 3, none⟩ (.int .i64 c)) := fun k c w' hc => ⟨k, ⟨s1.id, s1.ver, s1.tm, c, s1.ca, s1.D, s1.dl, s1.dc, s1.N, s1.nl, s1.nc, s1.T, s1.tl, s1.tc, s1.S, s1.sl, s1.sc⟩, rfl, by simpa using (bP2.keep hc (fun h => h)).set 3 (.int .i64 c), fun _ => ⟨fun w2 h2 => (HN1.out.okP ((four_p (chg_p _ _ _ _ _ hc)).trans h2 (fun x hx => .inl hx))).scal _ _ _ _ _, h81, Nat.le_succ_of_le hs1⟩, (chg_p _ _ _ _ _ hc).mono (fun x hx => .inl (.inl hx))⟩
      have CANC : ∀ (k : Int) w', Chg (fun _ => False) wc w' → SwRel S s p wc (.int .i64 k) (w'.setCell ⟨p, 4, none⟩ (.bool true)) := fun k w' hc => ⟨k, ⟨s1.id, s1.ver, s1.tm, s1.cl, true, s1.D, s1.dl, s1.dc, s1.N, s1.nl, s1.nc, s1.T, s1.tl, s1.tc, s1.S, s1.sl, s1.sc⟩, rfl, by simpa using (bP2.keep hc (fun h => h)).set 4 (.bool true), fun _ => ⟨fun w2 h2 => (HN1.out.okP ((four_p (chg_p _ _ _ _ _ hc)).trans h2 (fun x hx => .inl hx))).scal _ _ _ _ _, h81, Nat.le_succ_of_le hs1⟩, (chg_p _ _ _ _ _ hc).mono (fun x hx => .inl (.inl hx))⟩
      have HCL := Lib.hid CLOSE
      have HCA := Lib.hid CANC
      clear CLOSE CANC
      have HBP := Lib.hid bP2
      have HBE := Lib.hid bE2
      clear bP2 bE2
      rcases (by omega : ty = 1 ∨ ty = 2 ∨ ty = 3 ∨ ty = 4 ∨ ty = 5 ∨ ty = 6 ∨ ty = 7 ∨ ty = 8 ∨ ty = 9 ∨ ty = 10 ∨ ty = 11 ∨ ty = 12) with hx | hx | hx | hx | hx | hx | hx | hx | hx | hx | hx | hx
      all_goals (subst hx; clear hty)
      · have hfp := EvF.parts HFR.out
        have hck := check_any f.D f.dc f.dl wc (HF.out.still hc2).rdy.ds (fun d hd => (hfp.2.2.2.2.2.2.2.2 d hd).1)
        have HFP := Lib.hid hfp.2.2.2.2.2.2.2
        clear hfp
        have q8 : wc.cell? ⟨gE, 8, none⟩ = some (.slice f.D f.dl.length f.dc) := HBE.out.cell 8 rfl
        go_upto_region 13 with fail
        go_cut [62] from 52 to 61 (fun v w' => (∃ b : Bool, v = .bool b) ∧ Chg (fun _ => False) wc w')
        case first =>
          go_wp2_with (go_at_call 93; go_must (refine hck.mono ?_; rintro e w2 ⟨⟨k, rfl⟩, hc2⟩))
          go_meet
          exact ⟨⟨_, rfl⟩, hc2⟩
        obtain ⟨⟨b, rfl⟩, hcX⟩ := hcut
        have bZ3 := bZ2.keep hcX (fun h => h)
        have bO3 := bO2.keep hcX (fun h => h)
        have hc3 := hc2.trans hcX (fun x hx => hx.elim)
        cases b
        rotate_left
        · skip
          have o0 : wc.cell? ⟨gO, 0, none⟩ = some (.int .i64 0) := bO3.cell 0 rfl
          have o1 : wc.cell? ⟨gO, 1, none⟩ = some (.int .i64 0) := bO3.cell 1 rfl
          have o2 : wc.cell? ⟨gO, 2, none⟩ = some (.int .i64 0) := bO3.cell 2 rfl
          have o3 : wc.cell? ⟨gO, 3, none⟩ = some (.int .i64 0) := bO3.cell 3 rfl
          have o4 : wc.cell? ⟨gO, 4, none⟩ = some (.bool false) := bO3.cell 4 rfl
          have o5 : wc.cell? ⟨gO, 5, none⟩ = some (.slice none 0 0) := bO3.cell 5 rfl
          have o6 : wc.cell? ⟨gO, 6, none⟩ = some (.slice none 0 0) := bO3.cell 6 rfl
          have o7 : wc.cell? ⟨gO, 7, none⟩ = some (.slice none 0 0) := bO3.cell 7 rfl
          have o8 : wc.cell? ⟨gO, 8, none⟩ = some (.slice none 0 0) := bO3.cell 8 rfl
          have t0 : wc.cell? ⟨gZ, 0, none⟩ = some (.int .i64 0) := bZ3.cell 0 rfl
          have t1 : wc.cell? ⟨gZ, 1, none⟩ = some (.int .i64 0) := bZ3.cell 1 rfl
          have t2 : wc.cell? ⟨gZ, 2, none⟩ = some (.int .i64 0) := bZ3.cell 2 rfl
          have t3 : wc.cell? ⟨gZ, 3, none⟩ = some (.int .i64 0) := bZ3.cell 3 rfl
          have t4 : wc.cell? ⟨gZ, 4, none⟩ = some (.bool false) := bZ3.cell 4 rfl
          have t5 : wc.cell? ⟨gZ, 5, none⟩ = some (.slice none 0 0) := bZ3.cell 5 rfl
          have t6 : wc.cell? ⟨gZ, 6, none⟩ = some (.slice none 0 0) := bZ3.cell 6 rfl
          have t7 : wc.cell? ⟨gZ, 7, none⟩ = some (.slice none 0 0) := bZ3.cell 7 rfl
          have t8 : wc.cell? ⟨gZ, 8, none⟩ = some (.slice none 0 0) := bZ3.cell 8 rfl
          have z0 := bZ3.fz 0
          have z1 := bZ3.fz 1
          have z2 := bZ3.fz 2
          have z3 := bZ3.fz 3
          have z4 := bZ3.fz 4
          have z5 := bZ3.fz 5
          have z6 := bZ3.fz 6
          have z7 := bZ3.fz 7
          have z8 := bZ3.fz 8
          go_wp2_with fail
          (try simp only [Exit.inBlock, Exit.then])
          refine bodyPost_ret (results_cell_row_tmp rfl _ _ gZ _ _ _ _ rfl (BoxAt.set9 bZ3 _ _ _ _ _ _ _ _ _) Tryz.underlying78 rfl stSize) rfl ?_
          exact Applied.no 1 (by decide) (hc3.trans (chg_set9 _ _ _ _ _ _ _ _ _ _ _) hnewZ)
        have bP3 := HBP.out.keep hcX (fun h => h)
        have bE3 := HBE.out.keep hcX (fun h => h)
        have e8 : wc.cell? ⟨gE, 8, none⟩ = some (.slice f.D f.dl.length f.dc) := bE3.cell 8 rfl
        have p5 : wc.cell? ⟨p, 5, none⟩ = some (.slice s1.D s1.dl.length s1.dc) := bP3.cell 5 rfl
        have y5 := bP3.fz 5
        obtain ⟨w5, hw5⟩ : ∃ w5, w5 = wc.setCell ⟨p, 5, none⟩ (.slice f.D f.dl.length f.dc) := ⟨_, rfl⟩
        have b5 := bP3.set 5 (.slice f.D f.dl.length f.dc)
        have hcS : Chg (· = p) wc w5 := by rw [hw5]; exact chg_put _ _ _ _
        rw [← hw5] at b5
        obtain ⟨i0, hi, hz0, hz1, hz2⟩ := info_parts ndInfo
        have hdl8 := HFP.out.1
        obtain ⟨n, hn⟩ : ∃ n, n = f.dl.length := ⟨_, rfl⟩
        have HNN := Lib.hid hn
        rw [← hn] at hdl8
        clear hn
        go_upto_region 16 with fail
        rw [← hw5]
        clear hw5
        obtain ⟨w6, hrun, hown, hgrow⟩ := run_make_full (P := Tryz.prog) w5 w5.heap.size 74 114 i0 _ 4 Tryz.underlying74 hi hz0 hz1 .i64 .i64 n (by rw [hz2]; omega) (by simp only [maxLen]; omega) (Nat.le_refl _)
        rw [made_nd] at hown
        have hcM := Chg.of_none hgrow
        have e8' : w5.cell? ⟨gE, 8, none⟩ = some (.slice f.D n f.dc) := by rw [HNN.out]; exact (bE3.keep hcS n2).cell 8 rfl
        have b6 := b5.keep hcM (fun h => h)
        have p6 : w6.cell? ⟨p, 6, none⟩ = some (.slice s1.N s1.nl.length s1.nc) := b6.cell 6 rfl
        have y6 := b6.fz 6
        go_wp2_with fail
        go_meet
        have hcF := chg_put w6 p 6 (.slice (some ⟨w5.heap.size, 0, none⟩) n n)
        have hs5 : wc.heap.size ≤ w5.heap.size := hcS.size
        have hs6 := hcX.size
        have hcY : Chg (· = p) wc (w6.setCell ⟨p, 6, none⟩ (.slice (some ⟨w5.heap.size, 0, none⟩) n n)) := (hcS.trans hcM (fun x hx => hx.elim)).trans hcF (fun x hx => .inl hx)
        have hcZ := hcX.mono (T := (· = p)) (fun x h => h.elim)
        have hcV := hcZ.trans hcY (fun x hx => .inl hx)
        have hpw6 : p ≠ w5.heap.size := by omega
        refine ⟨_, ⟨s1.id, s1.ver, s1.tm, s1.cl, s1.ca, f.D, f.dl, f.dc, some ⟨w5.heap.size, 0, none⟩, List.replicate n ⟨0, 0, 0, none, 0, 0⟩, n, s1.T, s1.tl, s1.tc, s1.S, s1.sl, s1.sc⟩, rfl, ?_, fun _ => ⟨fun w2 h2 => ?_, h81, Nat.le_succ_of_le hs1⟩, hcV.mono (fun x hx => .inl (.inl hx))⟩
        · simpa using b6.set 6 (.slice (some ⟨w5.heap.size, 0, none⟩) n n)
        · have h4 := (four_p hcV).trans h2 (fun x hx => .inl hx)
          have hk := HN1.out.okP h4
          have h5 : Chg S w w2 := (hc2.mono (fun x h => h.elim)).trans h4 (fun x hx => hx.elim .inl (fun h' => .inr (Nat.le_trans hpl h'.1)))
          have h6 : Chg (Four S p) w6 w2 := (four_p hcF).trans h2 (fun x hx => .inl hx)
          exact ⟨(HEV.out _ h5).rdy.ds, (Rd.of_own hown).keep h6 (fun x hx => Four.far HSL.out (by have h1 := Option.some.inj hx; simp only at h1; omega) (by have h1 := Option.some.inj hx; simp only at h1; omega)), hk.tm, hk.sg, by simp only [List.length_replicate]; exact HNN.out.symm, by simp only; rw [← HNN.out]; exact hdl8, HFP.out.2, hk.tn, hk.sn⟩
      · have ha := applyNode_any s1 p f wc HBP.out HN1.out.ok (EvF.parts HFR.out).2.2.2.2.1.1 (EvF.parts HFR.out).2.2.2.2.1.2 (own_mono HN1.out.own (Nat.zero_le _)) (fun hx => by have h1 := HN1.out.off p hx; omega)
        unfold EvF.val EvF.row at ha
        rw [← HTE.out] at ha
        have q0 : wc.cell? ⟨gE, 0, none⟩ = some (.int .i64 f.id) := HBE.out.cell 0 rfl
        have q1 : wc.cell? ⟨gE, 1, none⟩ = some (.int .i64 f.ver) := HBE.out.cell 1 rfl
        have q2 : wc.cell? ⟨gE, 2, none⟩ = some (.int .i64 f.tm) := HBE.out.cell 2 rfl
        have q4 : wc.cell? ⟨gE, 4, none⟩ = some (.int .i64 f.node) := HBE.out.cell 4 rfl
        have q5 : wc.cell? ⟨gE, 5, none⟩ = some (.int .i64 f.m) := HBE.out.cell 5 rfl
        have q6 : wc.cell? ⟨gE, 6, none⟩ = some (.string f.nm) := HBE.out.cell 6 rfl
        have q7 : wc.cell? ⟨gE, 7, none⟩ = some (.slice f.A f.bs.length f.c) := HBE.out.cell 7 rfl
        have q8 : wc.cell? ⟨gE, 8, none⟩ = some (.slice f.D f.dl.length f.dc) := HBE.out.cell 8 rfl
        go_wp2_with (go_at_call 98; go_must (refine ha.mono ?_; rintro e w5 ⟨⟨k, rfl⟩, hnt⟩; have HNT := Lib.hid hnt; clear hnt))
        go_meet
        exact SwRel.node k HN1.out HBP.out h81 hs1 HNT.out
      · have ha := applyNode_any s1 p f wc HBP.out HN1.out.ok (EvF.parts HFR.out).2.2.2.2.1.1 (EvF.parts HFR.out).2.2.2.2.1.2 (own_mono HN1.out.own (Nat.zero_le _)) (fun hx => by have h1 := HN1.out.off p hx; omega)
        unfold EvF.val EvF.row at ha
        rw [← HTE.out] at ha
        have q0 : wc.cell? ⟨gE, 0, none⟩ = some (.int .i64 f.id) := HBE.out.cell 0 rfl
        have q1 : wc.cell? ⟨gE, 1, none⟩ = some (.int .i64 f.ver) := HBE.out.cell 1 rfl
        have q2 : wc.cell? ⟨gE, 2, none⟩ = some (.int .i64 f.tm) := HBE.out.cell 2 rfl
        have q4 : wc.cell? ⟨gE, 4, none⟩ = some (.int .i64 f.node) := HBE.out.cell 4 rfl
        have q5 : wc.cell? ⟨gE, 5, none⟩ = some (.int .i64 f.m) := HBE.out.cell 5 rfl
        have q6 : wc.cell? ⟨gE, 6, none⟩ = some (.string f.nm) := HBE.out.cell 6 rfl
        have q7 : wc.cell? ⟨gE, 7, none⟩ = some (.slice f.A f.bs.length f.c) := HBE.out.cell 7 rfl
        have q8 : wc.cell? ⟨gE, 8, none⟩ = some (.slice f.D f.dl.length f.dc) := HBE.out.cell 8 rfl
        go_wp2_with (go_at_call 98; go_must (refine ha.mono ?_; rintro e w5 ⟨⟨k, rfl⟩, hnt⟩; have HNT := Lib.hid hnt; clear hnt))
        go_meet
        exact SwRel.node k HN1.out HBP.out h81 hs1 HNT.out
      · have ha := applyNode_any s1 p f wc HBP.out HN1.out.ok (EvF.parts HFR.out).2.2.2.2.1.1 (EvF.parts HFR.out).2.2.2.2.1.2 (own_mono HN1.out.own (Nat.zero_le _)) (fun hx => by have h1 := HN1.out.off p hx; omega)
        unfold EvF.val EvF.row at ha
        rw [← HTE.out] at ha
        have q0 : wc.cell? ⟨gE, 0, none⟩ = some (.int .i64 f.id) := HBE.out.cell 0 rfl
        have q1 : wc.cell? ⟨gE, 1, none⟩ = some (.int .i64 f.ver) := HBE.out.cell 1 rfl
        have q2 : wc.cell? ⟨gE, 2, none⟩ = some (.int .i64 f.tm) := HBE.out.cell 2 rfl
        have q4 : wc.cell? ⟨gE, 4, none⟩ = some (.int .i64 f.node) := HBE.out.cell 4 rfl
        have q5 : wc.cell? ⟨gE, 5, none⟩ = some (.int .i64 f.m) := HBE.out.cell 5 rfl
        have q6 : wc.cell? ⟨gE, 6, none⟩ = some (.string f.nm) := HBE.out.cell 6 rfl
        have q7 : wc.cell? ⟨gE, 7, none⟩ = some (.slice f.A f.bs.length f.c) := HBE.out.cell 7 rfl
        have q8 : wc.cell? ⟨gE, 8, none⟩ = some (.slice f.D f.dl.length f.dc) := HBE.out.cell 8 rfl
        go_wp2_with (go_at_call 98; go_must (refine ha.mono ?_; rintro e w5 ⟨⟨k, rfl⟩, hnt⟩; have HNT := Lib.hid hnt; clear hnt))
        go_meet
        exact SwRel.node k HN1.out HBP.out h81 hs1 HNT.out
      · have ha := applyTimer_any s1 p f wc HBP.out HN1.out.ok h81 (HF.out.rdy.nm)
        unfold EvF.val EvF.row at ha
        rw [← HTE.out] at ha
        have q0 : wc.cell? ⟨gE, 0, none⟩ = some (.int .i64 f.id) := HBE.out.cell 0 rfl
        have q1 : wc.cell? ⟨gE, 1, none⟩ = some (.int .i64 f.ver) := HBE.out.cell 1 rfl
        have q2 : wc.cell? ⟨gE, 2, none⟩ = some (.int .i64 f.tm) := HBE.out.cell 2 rfl
        have q4 : wc.cell? ⟨gE, 4, none⟩ = some (.int .i64 f.node) := HBE.out.cell 4 rfl
        have q5 : wc.cell? ⟨gE, 5, none⟩ = some (.int .i64 f.m) := HBE.out.cell 5 rfl
        have q6 : wc.cell? ⟨gE, 6, none⟩ = some (.string f.nm) := HBE.out.cell 6 rfl
        have q7 : wc.cell? ⟨gE, 7, none⟩ = some (.slice f.A f.bs.length f.c) := HBE.out.cell 7 rfl
        have q8 : wc.cell? ⟨gE, 8, none⟩ = some (.slice f.D f.dl.length f.dc) := HBE.out.cell 8 rfl
        go_wp2_with (go_at_call 99; go_must (refine ha.mono ?_; rintro e w5 ⟨⟨k, rfl⟩, hnt⟩; have HNT := Lib.hid hnt; clear hnt))
        go_meet
        exact SwRel.tim k HN1.out hs1 hwc hsz2 HNT.out
      · have ha := applyTimer_any s1 p f wc HBP.out HN1.out.ok h81 (HF.out.rdy.nm)
        unfold EvF.val EvF.row at ha
        rw [← HTE.out] at ha
        have q0 : wc.cell? ⟨gE, 0, none⟩ = some (.int .i64 f.id) := HBE.out.cell 0 rfl
        have q1 : wc.cell? ⟨gE, 1, none⟩ = some (.int .i64 f.ver) := HBE.out.cell 1 rfl
        have q2 : wc.cell? ⟨gE, 2, none⟩ = some (.int .i64 f.tm) := HBE.out.cell 2 rfl
        have q4 : wc.cell? ⟨gE, 4, none⟩ = some (.int .i64 f.node) := HBE.out.cell 4 rfl
        have q5 : wc.cell? ⟨gE, 5, none⟩ = some (.int .i64 f.m) := HBE.out.cell 5 rfl
        have q6 : wc.cell? ⟨gE, 6, none⟩ = some (.string f.nm) := HBE.out.cell 6 rfl
        have q7 : wc.cell? ⟨gE, 7, none⟩ = some (.slice f.A f.bs.length f.c) := HBE.out.cell 7 rfl
        have q8 : wc.cell? ⟨gE, 8, none⟩ = some (.slice f.D f.dl.length f.dc) := HBE.out.cell 8 rfl
        go_wp2_with (go_at_call 99; go_must (refine ha.mono ?_; rintro e w5 ⟨⟨k, rfl⟩, hnt⟩; have HNT := Lib.hid hnt; clear hnt))
        go_meet
        exact SwRel.tim k HN1.out hs1 hwc hsz2 HNT.out
      · have hh := has_any s1 f.nm wc HN1.out.ok
        unfold StV.val StV.row at hh
        have q6 : wc.cell? ⟨gE, 6, none⟩ = some (.string f.nm) := HBE.out.cell 6 rfl
        go_upto_region 25 with fail
        go_cut [88] from 52 to 87 (fun v w' => (∃ b : Bool, v = .bool b) ∧ Chg (fun _ => False) wc w')
        case first =>
          go_wp2_with (go_at_call 97; go_must (refine hh.mono ?_; rintro e w2 ⟨⟨k, rfl⟩, hc2⟩))
          go_meet
          exact ⟨⟨_, rfl⟩, hc2⟩
        obtain ⟨⟨b, rfl⟩, hcX⟩ := hcut
        have bZ3 := bZ2.keep hcX (fun h => h)
        have bO3 := bO2.keep hcX (fun h => h)
        have hc3 := hc2.trans hcX (fun x hx => hx.elim)
        cases b
        rotate_left
        · skip
          have o0 : wc.cell? ⟨gO, 0, none⟩ = some (.int .i64 0) := bO3.cell 0 rfl
          have o1 : wc.cell? ⟨gO, 1, none⟩ = some (.int .i64 0) := bO3.cell 1 rfl
          have o2 : wc.cell? ⟨gO, 2, none⟩ = some (.int .i64 0) := bO3.cell 2 rfl
          have o3 : wc.cell? ⟨gO, 3, none⟩ = some (.int .i64 0) := bO3.cell 3 rfl
          have o4 : wc.cell? ⟨gO, 4, none⟩ = some (.bool false) := bO3.cell 4 rfl
          have o5 : wc.cell? ⟨gO, 5, none⟩ = some (.slice none 0 0) := bO3.cell 5 rfl
          have o6 : wc.cell? ⟨gO, 6, none⟩ = some (.slice none 0 0) := bO3.cell 6 rfl
          have o7 : wc.cell? ⟨gO, 7, none⟩ = some (.slice none 0 0) := bO3.cell 7 rfl
          have o8 : wc.cell? ⟨gO, 8, none⟩ = some (.slice none 0 0) := bO3.cell 8 rfl
          have t0 : wc.cell? ⟨gZ, 0, none⟩ = some (.int .i64 0) := bZ3.cell 0 rfl
          have t1 : wc.cell? ⟨gZ, 1, none⟩ = some (.int .i64 0) := bZ3.cell 1 rfl
          have t2 : wc.cell? ⟨gZ, 2, none⟩ = some (.int .i64 0) := bZ3.cell 2 rfl
          have t3 : wc.cell? ⟨gZ, 3, none⟩ = some (.int .i64 0) := bZ3.cell 3 rfl
          have t4 : wc.cell? ⟨gZ, 4, none⟩ = some (.bool false) := bZ3.cell 4 rfl
          have t5 : wc.cell? ⟨gZ, 5, none⟩ = some (.slice none 0 0) := bZ3.cell 5 rfl
          have t6 : wc.cell? ⟨gZ, 6, none⟩ = some (.slice none 0 0) := bZ3.cell 6 rfl
          have t7 : wc.cell? ⟨gZ, 7, none⟩ = some (.slice none 0 0) := bZ3.cell 7 rfl
          have t8 : wc.cell? ⟨gZ, 8, none⟩ = some (.slice none 0 0) := bZ3.cell 8 rfl
          have z0 := bZ3.fz 0
          have z1 := bZ3.fz 1
          have z2 := bZ3.fz 2
          have z3 := bZ3.fz 3
          have z4 := bZ3.fz 4
          have z5 := bZ3.fz 5
          have z6 := bZ3.fz 6
          have z7 := bZ3.fz 7
          have z8 := bZ3.fz 8
          go_wp2_with fail
          (try simp only [Exit.inBlock, Exit.then])
          refine bodyPost_ret (results_cell_row_tmp rfl _ _ gZ _ _ _ _ rfl (BoxAt.set9 bZ3 _ _ _ _ _ _ _ _ _) Tryz.underlying78 rfl stSize) rfl ?_
          exact Applied.no 13 (by decide) (hc3.trans (chg_set9 _ _ _ _ _ _ _ _ _ _ _) hnewZ)
        go_upto_region 27 with fail
        obtain ⟨i0, hi, hz0, hz1, hz2⟩ := info_parts sgInfo
        have bP3 := HBP.out.keep hcX (fun h => h)
        have bE3 := HBE.out.keep hcX (fun h => h)
        have hRw : ∀ w', Chg (fun _ => False) wc w' → Rd w' s1.S (sgC s1.sl) := fun w' hw => HN1.out.ok.sg.keep (hcX.trans hw (fun x hx => hx.elim)) (fun _ _ h => h)
        have hS : ∀ w', Chg (fun _ => False) wc w' → w'.cell? ⟨gE, 0, none⟩ = some (.int .i64 f.id) ∧ w'.cell? ⟨gE, 6, none⟩ = some (.string f.nm) ∧ w'.cell? ⟨gE, 7, none⟩ = some (.slice f.A f.bs.length f.c) := fun w' hw => ⟨(bE3.keep hw (fun h => h)).cell 0 rfl, (bE3.keep hw (fun h => h)).cell 6 rfl, (bE3.keep hw (fun h => h)).cell 7 rfl⟩
        have hS8 : ∀ {w7 : World} {u : Value}, Chg (fun _ => False) wc w7 → (w7.setCell ⟨p, 8, none⟩ u).cell? ⟨gE, 0, none⟩ = some (.int .i64 f.id) ∧ (w7.setCell ⟨p, 8, none⟩ u).cell? ⟨gE, 6, none⟩ = some (.string f.nm) ∧ (w7.setCell ⟨p, 8, none⟩ u).cell? ⟨gE, 7, none⟩ = some (.slice f.A f.bs.length f.c) := fun {w7 u} hw => by
          have hh := (hw.mono (T := (· = p)) (fun x h => h.elim)).trans (chg_put w7 p 8 u) (fun x hx => .inl hx)
          exact ⟨(bE3.keep hh n2).cell 0 rfl, (bE3.keep hh n2).cell 6 rfl, (bE3.keep hh n2).cell 7 rfl⟩
        have k0 : Chg (fun _ => False) wc wc.drew := (Chg.refl _ _).drew
        have r0 : Chg (fun _ => False) wc wc := Chg.refl _ _
        have v0 : wc.cell? ⟨p, 8, none⟩ = some (.slice s1.S s1.sl.length s1.sc) := (bP3.keep r0 (fun h => h)).cell 8 rfl
        have v1 : (wc.alloc (.cells #[] 133)).cell? ⟨p, 8, none⟩ = some (.slice s1.S s1.sl.length s1.sc) := (bP3.keep (r0.alloc _) (fun h => h)).cell 8 rfl
        have v2 : (wc.alloc (.cells #[.string f.nm, .int .i64 f.id, .slice f.A f.bs.length f.c] 133)).cell? ⟨p, 8, none⟩ = some (.slice s1.S s1.sl.length s1.sc) := (bP3.keep (r0.alloc _) (fun h => h)).cell 8 rfl
        have v3 : ((wc.alloc (.cells #[] 133)).alloc (.cells #[.string f.nm, .int .i64 f.id, .slice f.A f.bs.length f.c] 133)).cell? ⟨p, 8, none⟩ = some (.slice s1.S s1.sl.length s1.sc) := (bP3.keep ((r0.alloc _).alloc _) (fun h => h)).cell 8 rfl
        have v4 : ((wc.alloc (.cells #[.string f.nm, .int .i64 f.id, .slice f.A f.bs.length f.c] 133)).alloc (.cells #[] 133)).cell? ⟨p, 8, none⟩ = some (.slice s1.S s1.sl.length s1.sc) := (bP3.keep ((r0.alloc _).alloc _) (fun h => h)).cell 8 rfl
        have hl1 : 0 + s1.sl.length ≤ maxLen := by simp only [maxLen]; omega
        have hl2 : (0 + s1.sl.length) * 48 ≤ 140737488355328 := by omega
        have hl3 : s1.sl.length + 1 ≤ maxLen := by simp only [maxLen]; omega
        have hl4 : (s1.sl.length + 1) * 48 ≤ 140737488355328 := by omega
        clear r0 r1 r2 r3 r4 r5 r6 r7 r8 q3 q6 y3 y4 hh bZ2 bO2 bZ3 bO3
        rw [sigLoad_eq]
        go_region_held3 (fun w' => w'.cell? ⟨gE, 0, none⟩ = some (.int .i64 f.id) ∧ w'.cell? ⟨gE, 6, none⟩ = some (.string f.nm) ∧ w'.cell? ⟨gE, 7, none⟩ = some (.slice f.A f.bs.length f.c)) (first | exact hS _ hc7 | exact hS _ (hc6.alloc _) | exact hS _ hc6 | exact hS _ (k0.alloc _) | exact hS _ ((k0.alloc _).alloc _) | exact hS _ k0 | exact hS8 hc7)
          (first
          | (refine step_append_rd _ (by rfl) (.tmp 93) (.tmp 101) 76 (by rfl) wc.heap.size 133 i0 _ 3 48 Tryz.underlying76 hi hz0 hz1 hz2 (by rfl) (by decide) A6 s1.sl.length c6 (sgC s1.sl) (by first | rfl | (simp only [Nat.zero_add]; rfl)) (by first | exact hown6 | exact hown6.alloc _) _ 1 1 (sgC [⟨f.nm, f.id, f.A, f.bs.length, f.c⟩]) (by rfl) (by rfl) (by first | exact hR6 | exact Rd.newRow w6 _ _ _ rfl) (sgC_one _) hl3 hl4 (by first | exact hc6.size | exact (hc6.alloc _).size) ?_; intro A7 c7 w7 hown7 hg7 hb7; have hc7 : Chg (fun _ => False) wc w7 := Chg.trans (by first | exact hc6 | exact hc6.alloc _) hg7 (fun x hx => .inr (own_lt hown6 hx).1); have b7 := bP3.keep hc7 (fun h => h); have v7 : w7.cell? ⟨p, 8, none⟩ = some (.slice s1.S s1.sl.length s1.sc) := b7.cell 8 rfl; have y7 := b7.fz 8; clear b7)
          | (refine step_append_rd _ (by rfl) (.tmp 90) (.tmp 92) 76 (by rfl) wc.heap.size 133 i0 _ 3 48 Tryz.underlying76 hi hz0 hz1 hz2 (by rfl) (by decide) _ 0 0 [] (by rfl) (by first | exact World.ownsRow_made wc.drew #[] 0 (Nat.le_refl _) (by decide) rfl) s1.S s1.sl.length s1.sc (sgC s1.sl) (by rfl) (sgC_len _) (hRw _ (k0.alloc _)) (sgC_one _) hl1 hl2 (k0.alloc _).size ?_; intro A6 c6 w6 hown6 hg6 hb6; simp only [Nat.zero_add, List.nil_append] at hown6; have hc6 : Chg (fun _ => False) wc w6 := (k0.alloc _).trans hg6 (fun x hx => .inr (by have e := Option.some.inj hx; subst e; exact Nat.le_refl _)))
          | (refine step_append_rd _ (by rfl) (.tmp 90) (.tmp 92) 76 (by rfl) wc.heap.size 133 i0 _ 3 48 Tryz.underlying76 hi hz0 hz1 hz2 (by rfl) (by decide) _ 0 0 [] (by rfl) (by first | exact World.ownsRow.alloc (World.ownsRow_made wc.drew #[] 0 (Nat.le_refl _) (by decide) rfl) _) s1.S s1.sl.length s1.sc (sgC s1.sl) (by rfl) (sgC_len _) (hRw _ ((k0.alloc _).alloc _)) (sgC_one _) hl1 hl2 ((k0.alloc _).alloc _).size ?_; intro A6 c6 w6 hown6 hg6 hb6; simp only [Nat.zero_add, List.nil_append] at hown6; have hc6 : Chg (fun _ => False) wc w6 := ((k0.alloc _).alloc _).trans hg6 (fun x hx => .inr (by have e := Option.some.inj hx; subst e; exact Nat.le_refl _)); have hR6 := (rd_made2s wc.drew (.cells #[] 133) 133 #[.string f.nm, .int .i64 f.id, .slice f.A f.bs.length f.c] (sgC [⟨f.nm, f.id, f.A, f.bs.length, f.c⟩]) rfl).keep hg6 (fun x hx hs => by have e := Option.some.inj hx; have e2 := Option.some.inj hs; have e3 : wc.drew.heap.size = wc.heap.size := rfl; simp only [] at e e2; omega))
          | (refine step_append_rd _ (by rfl) (.tmp 90) (.tmp 92) 76 (by rfl) wc.heap.size 133 i0 _ 3 48 Tryz.underlying76 hi hz0 hz1 hz2 (by rfl) (by decide) _ 0 0 [] (by rfl) (by exact own_made2s wc.drew _ _ _ (Nat.le_refl _)) s1.S s1.sl.length s1.sc (sgC s1.sl) (by rfl) (sgC_len _) (hRw _ ((k0.alloc _).alloc _)) (sgC_one _) hl1 hl2 ((k0.alloc _).alloc _).size ?_; intro A6 c6 w6 hown6 hg6 hb6; simp only [Nat.zero_add, List.nil_append] at hown6; have hc6 : Chg (fun _ => False) wc w6 := ((k0.alloc _).alloc _).trans hg6 (fun x hx => .inr (by have e := Option.some.inj hx; subst e; exact Nat.le_succ _)); have hR6 := ((Rd.newRow wc.drew 133 #[.string f.nm, .int .i64 f.id, .slice f.A f.bs.length f.c] (sgC [⟨f.nm, f.id, f.A, f.bs.length, f.c⟩]) rfl).alloc _).keep hg6 (fun x hx hs => by have e := Option.some.inj hx; have e2 := Option.some.inj hs; have e3 : wc.drew.heap.size = wc.heap.size := rfl; simp only [] at e e2; omega))
          | fail)
        all_goals
          go_wp2_with fail
          go_meet
          have e : s1.sl.length + 1 = (s1.sl ++ [(⟨f.nm, f.id, f.A, f.bs.length, f.c⟩ : Sg)]).length := by simp
          rw [← sgC_app] at hown7
          exact SwRel.sig HN1.out bP3 h81 hs1 hs (by have h1 := hcX.size; omega) (by have h1 := hcX.size; omega) hcX hc7 hown7 e (Nat.le_refl _)
      · go_upto_region 29 with fail
        obtain ⟨ca, hca⟩ : ∃ ca, ca = s1.ca := ⟨_, rfl⟩
        rw [← hca] at r4
        clear hca
        cases ca
        all_goals
          go_wp2_with fail
          go_meet
          exact HCA.out _ _ (Chg.refl _ _)
      · go_upto_region 33 with fail
        go_cut [116] from 52 to 115 (fun v w' => (∃ b : Bool, v = .bool b) ∧ Chg (fun _ => False) wc w')
        case first =>
          have k0 : Chg (fun _ => False) wc wc.drew := (Chg.refl _ _).drew
          go_region_held3 (fun w' => w'.cell? ⟨p, 0, none⟩ = some (.int .i64 s1.id) ∧ w'.cell? ⟨p, 1, none⟩ = some (.int .i64 s1.ver) ∧ w'.cell? ⟨p, 2, none⟩ = some (.int .i64 s1.tm) ∧ w'.cell? ⟨p, 3, none⟩ = some (.int .i64 s1.cl) ∧ w'.cell? ⟨p, 4, none⟩ = some (.bool s1.ca) ∧ w'.cell? ⟨p, 5, none⟩ = some (.slice s1.D s1.dl.length s1.dc) ∧ w'.cell? ⟨p, 6, none⟩ = some (.slice s1.N s1.nl.length s1.nc) ∧ w'.cell? ⟨p, 7, none⟩ = some (.slice s1.T s1.tl.length s1.tc) ∧ w'.cell? ⟨p, 8, none⟩ = some (.slice s1.S s1.sl.length s1.sc)) (first | exact HSK.out _ k2 | exact HSK.out _ k0) (first
            | (go_at_call 100; (with_reducible refine (HC.out _ _ k0).mono ?_); rintro e w2 ⟨⟨k, rfl⟩, hc2⟩; have k2 := k0.trans hc2 (fun x hx => hx.elim))
            | fail)
          all_goals
            go_wp2_with fail
            go_meet
            exact ⟨⟨_, rfl⟩, by first | exact k2 | exact k0⟩
        obtain ⟨⟨b, rfl⟩, hcX⟩ := hcut
        have q3' := hcX.cell_some q3 (fun h => h)
        have r3' := hcX.cell_some r3 (fun h => h)
        have y3' := (HBP.out.keep hcX (fun h => h)).fz 3
        cases b
        all_goals
          go_wp2_with fail
          go_meet
          exact HCL.out _ _ _ hcX
      · go_upto_region 37 with fail
        go_cut [124] from 52 to 123 (fun v w' => (∃ b : Bool, v = .bool b) ∧ Chg (fun _ => False) wc w')
        case first =>
          have hk := HC.out 3 wc (Chg.refl _ _)
          go_wp2_with (go_at_call 100; go_must (refine hk.mono ?_; rintro e w2 ⟨⟨k, rfl⟩, hc2⟩))
          go_meet
          exact ⟨⟨_, rfl⟩, hc2⟩
        obtain ⟨⟨b, rfl⟩, hcX⟩ := hcut
        have q3' := hcX.cell_some q3 (fun h => h)
        have r3' := hcX.cell_some r3 (fun h => h)
        have y3' := (HBP.out.keep hcX (fun h => h)).fz 3
        cases b
        all_goals
          go_wp2_with fail
          go_meet
          exact HCL.out _ _ _ hcX
      · go_upto_region 41 with fail
        go_cut [137] from 52 to 136 (fun v w' => (∃ b : Bool, v = .bool b) ∧ Chg (fun _ => False) wc w')
        case first =>
          have hk := HC.out 1 wc (Chg.refl _ _)
          obtain ⟨ca, hca⟩ : ∃ ca, ca = s1.ca := ⟨_, rfl⟩
          rw [← hca] at r4 hk
          clear hca
          cases ca
          · go_wp2_with fail
            go_meet
            exact ⟨⟨_, rfl⟩, Chg.refl _ _⟩
          · go_wp2_with (go_at_call 100; go_must (refine hk.mono ?_; rintro e w2 ⟨⟨k, rfl⟩, hc2⟩))
            go_meet
            exact ⟨⟨_, rfl⟩, hc2⟩
        obtain ⟨⟨b, rfl⟩, hcX⟩ := hcut
        have q3' := hcX.cell_some q3 (fun h => h)
        have r3' := hcX.cell_some r3 (fun h => h)
        have y3' := (HBP.out.keep hcX (fun h => h)).fz 3
        cases b
        all_goals
          go_wp2_with fail
          go_meet
          exact HCL.out _ _ _ hcX
      · go_wp2_with fail
        go_meet
        exact HCL.out _ _ _ (Chg.refl _ _)
    case rest =>
      obtain ⟨k, s2, rfl, bP3, hok, hcX⟩ := hcut
      have hcw : Chg (fun _ => False) w wc := hc2.trans hcX (fun x hx => by rcases hx with hx | hx; exact .inr (by rw [hx]; exact hpl); exact .inr (by omega))
      have hgE := HGE.out
      have hgZ := HGZ.out
      have hgO := HGO.out
      have bE3 := bE2.keep hcX (fun hx => by rcases hx with hx | hx <;> omega)
      have bZ3 := bZ2.keep hcX (fun hx => by rcases hx with hx | hx <;> omega)
      have bO3 := bO2.keep hcX (fun hx => by rcases hx with hx | hx <;> omega)
      have hpz : gZ ≤ p + 3 ∧ p ≤ gZ := by omega
      clear hgE hgZ hgO bP2 bE2 bZ2 bO2 hcX hc2 q3
      by_cases hk : k = 0
      rotate_left
      · have f1 : (k != 0) = true := by simpa using hk
        have f2 : decide (k = 0) = false := by simpa using hk
        have HKK := Lib.hid hk
        clear hk
        have o0 : wc.cell? ⟨gO, 0, none⟩ = some (.int .i64 0) := bO3.cell 0 rfl
        have o1 : wc.cell? ⟨gO, 1, none⟩ = some (.int .i64 0) := bO3.cell 1 rfl
        have o2 : wc.cell? ⟨gO, 2, none⟩ = some (.int .i64 0) := bO3.cell 2 rfl
        have o3 : wc.cell? ⟨gO, 3, none⟩ = some (.int .i64 0) := bO3.cell 3 rfl
        have o4 : wc.cell? ⟨gO, 4, none⟩ = some (.bool false) := bO3.cell 4 rfl
        have o5 : wc.cell? ⟨gO, 5, none⟩ = some (.slice none 0 0) := bO3.cell 5 rfl
        have o6 : wc.cell? ⟨gO, 6, none⟩ = some (.slice none 0 0) := bO3.cell 6 rfl
        have o7 : wc.cell? ⟨gO, 7, none⟩ = some (.slice none 0 0) := bO3.cell 7 rfl
        have o8 : wc.cell? ⟨gO, 8, none⟩ = some (.slice none 0 0) := bO3.cell 8 rfl
        have t0 : wc.cell? ⟨gZ, 0, none⟩ = some (.int .i64 0) := bZ3.cell 0 rfl
        have t1 : wc.cell? ⟨gZ, 1, none⟩ = some (.int .i64 0) := bZ3.cell 1 rfl
        have t2 : wc.cell? ⟨gZ, 2, none⟩ = some (.int .i64 0) := bZ3.cell 2 rfl
        have t3 : wc.cell? ⟨gZ, 3, none⟩ = some (.int .i64 0) := bZ3.cell 3 rfl
        have t4 : wc.cell? ⟨gZ, 4, none⟩ = some (.bool false) := bZ3.cell 4 rfl
        have t5 : wc.cell? ⟨gZ, 5, none⟩ = some (.slice none 0 0) := bZ3.cell 5 rfl
        have t6 : wc.cell? ⟨gZ, 6, none⟩ = some (.slice none 0 0) := bZ3.cell 6 rfl
        have t7 : wc.cell? ⟨gZ, 7, none⟩ = some (.slice none 0 0) := bZ3.cell 7 rfl
        have t8 : wc.cell? ⟨gZ, 8, none⟩ = some (.slice none 0 0) := bZ3.cell 8 rfl
        have z0 := bZ3.fz 0
        have z1 := bZ3.fz 1
        have z2 := bZ3.fz 2
        have z3 := bZ3.fz 3
        have z4 := bZ3.fz 4
        have z5 := bZ3.fz 5
        have z6 := bZ3.fz 6
        have z7 := bZ3.fz 7
        have z8 := bZ3.fz 8
        go_wp2_with fail
        (try simp only [Exit.inBlock, Exit.then])
        refine bodyPost_ret (results_cell_row_tmp rfl _ _ gZ _ _ _ _ rfl (BoxAt.set9 bZ3 _ _ _ _ _ _ _ _ _) Tryz.underlying78 rfl stSize) rfl ?_
        exact Applied.no k HKK.out (hcw.trans (chg_set9 _ _ _ _ _ _ _ _ _ _ _) hnewZ)
      · subst hk
        have HOK := Lib.hid (hok rfl)
        clear hok bO3
        have r0 : wc.cell? ⟨p, 0, none⟩ = some (.int .i64 s2.id) := bP3.cell 0 rfl
        have r1 : wc.cell? ⟨p, 1, none⟩ = some (.int .i64 s2.ver) := bP3.cell 1 rfl
        have r2 : wc.cell? ⟨p, 2, none⟩ = some (.int .i64 s2.tm) := bP3.cell 2 rfl
        have y0 := bP3.fz 0
        have y1 := bP3.fz 1
        have y2 := bP3.fz 2
        have q0 : wc.cell? ⟨gE, 0, none⟩ = some (.int .i64 f.id) := bE3.cell 0 rfl
        have q1 : wc.cell? ⟨gE, 1, none⟩ = some (.int .i64 f.ver) := bE3.cell 1 rfl
        have q2 : wc.cell? ⟨gE, 2, none⟩ = some (.int .i64 f.tm) := bE3.cell 2 rfl
        go_upto_region 49 with fail
        obtain ⟨w7, hw7⟩ : ∃ w7, w7 = ((wc.setCell ⟨p, 0, none⟩ (.int .i64 f.id)).setCell ⟨p, 1, none⟩ (.int .i64 f.ver)).setCell ⟨p, 2, none⟩ (.int .i64 f.tm) := ⟨_, rfl⟩
        have b7 : BoxAt w7 p 78 #[.int .i64 f.id, .int .i64 f.ver, .int .i64 f.tm, .int .i64 s2.cl, .bool s2.ca, .slice s2.D s2.dl.length s2.dc, .slice s2.N s2.nl.length s2.nc, .slice s2.T s2.tl.length s2.tc, .slice s2.S s2.sl.length s2.sc] := by rw [hw7]; simpa using ((bP3.set 0 (.int .i64 f.id)).set 1 (.int .i64 f.ver)).set 2 (.int .i64 f.tm)
        have hc7 : Chg (· = p) wc w7 := by rw [hw7]; exact ((chg_put _ _ _ _).trans (chg_put _ _ _ _) (fun x hx => .inl hx)).trans (chg_put _ _ _ _) (fun x hx => .inl hx)
        have bZ7 := bZ3.keep hc7 n4
        rw [← hw7]
        clear hw7 r0 r1 r2 y0 y1 y2 q0 q1 q2 bP3 bE3 bZ3
        have r0 : w7.cell? ⟨p, 0, none⟩ = some (.int .i64 f.id) := b7.cell 0 rfl
        have r1 : w7.cell? ⟨p, 1, none⟩ = some (.int .i64 f.ver) := b7.cell 1 rfl
        have r2 : w7.cell? ⟨p, 2, none⟩ = some (.int .i64 f.tm) := b7.cell 2 rfl
        have r3 : w7.cell? ⟨p, 3, none⟩ = some (.int .i64 s2.cl) := b7.cell 3 rfl
        have r4 : w7.cell? ⟨p, 4, none⟩ = some (.bool s2.ca) := b7.cell 4 rfl
        have r5 : w7.cell? ⟨p, 5, none⟩ = some (.slice s2.D s2.dl.length s2.dc) := b7.cell 5 rfl
        have r6 : w7.cell? ⟨p, 6, none⟩ = some (.slice s2.N s2.nl.length s2.nc) := b7.cell 6 rfl
        have r7 : w7.cell? ⟨p, 7, none⟩ = some (.slice s2.T s2.tl.length s2.tc) := b7.cell 7 rfl
        have r8 : w7.cell? ⟨p, 8, none⟩ = some (.slice s2.S s2.sl.length s2.sc) := b7.cell 8 rfl
        have t0 : w7.cell? ⟨gZ, 0, none⟩ = some (.int .i64 0) := bZ7.cell 0 rfl
        have t1 : w7.cell? ⟨gZ, 1, none⟩ = some (.int .i64 0) := bZ7.cell 1 rfl
        have t2 : w7.cell? ⟨gZ, 2, none⟩ = some (.int .i64 0) := bZ7.cell 2 rfl
        have t3 : w7.cell? ⟨gZ, 3, none⟩ = some (.int .i64 0) := bZ7.cell 3 rfl
        have t4 : w7.cell? ⟨gZ, 4, none⟩ = some (.bool false) := bZ7.cell 4 rfl
        have t5 : w7.cell? ⟨gZ, 5, none⟩ = some (.slice none 0 0) := bZ7.cell 5 rfl
        have t6 : w7.cell? ⟨gZ, 6, none⟩ = some (.slice none 0 0) := bZ7.cell 6 rfl
        have t7 : w7.cell? ⟨gZ, 7, none⟩ = some (.slice none 0 0) := bZ7.cell 7 rfl
        have t8 : w7.cell? ⟨gZ, 8, none⟩ = some (.slice none 0 0) := bZ7.cell 8 rfl
        have z0 := bZ7.fz 0
        have z1 := bZ7.fz 1
        have z2 := bZ7.fz 2
        have z3 := bZ7.fz 3
        have z4 := bZ7.fz 4
        have z5 := bZ7.fz 5
        have z6 := bZ7.fz 6
        have z7 := bZ7.fz 7
        have z8 := bZ7.fz 8
        go_wp2_with fail
        (try simp only [Exit.inBlock, Exit.then])
        refine bodyPost_ret (results_cell_row_tmp rfl _ _ gZ _ _ _ _ rfl (BoxAt.set9 bZ7 _ _ _ _ _ _ _ _ _) Tryz.underlying78 rfl stSize) rfl ?_
        have hcZ := chg_set9 w7 gZ (.int .i64 f.id) (.int .i64 f.ver) (.int .i64 f.tm) (.int .i64 s2.cl) (.bool s2.ca) (.slice s2.D s2.dl.length s2.dc) (.slice s2.N s2.nl.length s2.nc) (.slice s2.T s2.tl.length s2.tc) (.slice s2.S s2.sl.length s2.sc)
        have hc8 := hcw.trans hc7 hnew
        obtain ⟨g1, g2, g3⟩ := HOK.out
        have h9 := (four_p (S := S) hc7).trans (hcZ.mono (T := Four S p) (fun x hx => .inl (.inr ⟨by rw [hx]; exact hpz.2, by rw [hx]; exact hpz.1⟩))) (fun x hx => .inl hx)
        exact ⟨⟨f.id, f.ver, f.tm, s2.cl, s2.ca, s2.D, s2.dl, s2.dc, s2.N, s2.nl, s2.nc, s2.T, s2.tl, s2.tc, s2.S, s2.sl, s2.sc⟩, 0, rfl, hc8.trans hcZ hnewZ, fun _ => ⟨fun u hu => (g1 _ (h9.trans hu (fun x hx => .inl (.inl hx)))).scal _ _ _ _ _, g2, g3, HFR.out, HFI.out.1, HFI.out.2.1, HFI.out.2.2, rfl, rfl, rfl⟩⟩
end Go.Proofs.YtngfimjbgopgjaaGreatDoor
