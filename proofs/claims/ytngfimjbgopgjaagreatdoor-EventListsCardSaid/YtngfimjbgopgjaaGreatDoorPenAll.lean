/- StEnd, Pen, in one text (merge.py). -/
import Derived.Test.YtngfimjbgopgjaaGreatDoorStOrdAll
import Derived.Test.YtngfimjbgopgjaaGreatDoorEvConAll
import Derived.BigRegion
/- Contract of cutoverref11.Ending: it gives some number. -/
namespace Go.Proofs.YtngfimjbgopgjaaGreatDoor
open Go.RowKit
set_option linter.unusedVariables false

set_option maxHeartbeats 4000000 in
set_option maxRecDepth 20000 in
theorem ending_any (s : StV) (w : World) (h : StOk w s) : Calls Tryz.prog 103 #[s.val] w fun e w' => SomeI e ∧ Chg (fun _ => False) w w' := by
  have hcnt := fun (k : Int) (w' : World) (hc : Chg (fun _ => False) w w') => count_any s k w' (h.still hc)
  unfold StV.val StV.row at hcnt ⊢
  have bx := BoxAt.new w 78 #[.int .i64 s.id, .int .i64 s.ver, .int .i64 s.tm, .int .i64 s.cl, .bool s.ca, .slice s.D s.dl.length s.dc, .slice s.N s.nl.length s.nc, .slice s.T s.tl.length s.tc, .slice s.S s.sl.length s.sc]
  have hc0 : Chg (fun _ => False) w (w.alloc (.cells #[.int .i64 s.id, .int .i64 s.ver, .int .i64 s.tm, .int .i64 s.cl, .bool s.ca, .slice s.D s.dl.length s.dc, .slice s.N s.nl.length s.nc, .slice s.T s.tl.length s.tc, .slice s.S s.sl.length s.sc] 78)) := (Chg.refl _ _).alloc _
  have HC := Lib.hid hcnt
  clear h hcnt
  go_enter Tryz.func103, Tryz.ntmps103
  go_upto_region 1 with fail
  obtain ⟨w1, hw1⟩ : ∃ w1, w1 = w.alloc (.cells #[.int .i64 s.id, .int .i64 s.ver, .int .i64 s.tm, .int .i64 s.cl, .bool s.ca, .slice s.D s.dl.length s.dc, .slice s.N s.nl.length s.nc, .slice s.T s.tl.length s.tc, .slice s.S s.sl.length s.sc] 78) := ⟨_, rfl⟩
  rw [← hw1] at bx hc0 ⊢
  clear hw1
  go_cut [3] from 4 to 12 (fun v w' => (∃ b : Bool, v = .bool b) ∧ w' = w1)
  case first =>
    have q3 : w1.cell? ⟨w.heap.size, 3, none⟩ = some (.int .i64 s.cl) := bx.cell 3 rfl
    have q5 : w1.cell? ⟨w.heap.size, 5, none⟩ = some (.slice s.D s.dl.length s.dc) := bx.cell 5 rfl
    obtain ⟨cl, hcl⟩ : ∃ cl, cl = s.cl := ⟨_, rfl⟩
    rw [← hcl] at q3
    clear hcl
    by_cases hcl : cl = 0
    · have f0 : (cl != 0) = false := by simpa using hcl
      have f1 : decide (cl = 0) = true := by simpa using hcl
      go_wp2_with fail
      go_meet
      exact ⟨⟨_, rfl⟩, rfl⟩
    · have f0 : (cl != 0) = true := by simpa using hcl
      have f1 : decide (cl = 0) = false := by simpa using hcl
      go_wp2_with fail
      go_meet
      exact ⟨⟨_, rfl⟩, rfl⟩
  case rest =>
    obtain ⟨⟨b, rfl⟩, rfl⟩ := hcut
    cases b
    rotate_left
    · go_wp2_with fail
      go_ret
      exact ⟨⟨_, rfl⟩, hc0⟩
    go_upto_region 3 with fail
    go_cut [13] from 14 to 20 (fun v w' => (∃ b : Bool, v = .bool b) ∧ Chg (fun _ => False) wc w')
    case first =>
      have q0 : wc.cell? ⟨w.heap.size, 0, none⟩ = some (.int .i64 s.id) := bx.cell 0 rfl
      have q1 : wc.cell? ⟨w.heap.size, 1, none⟩ = some (.int .i64 s.ver) := bx.cell 1 rfl
      have q2 : wc.cell? ⟨w.heap.size, 2, none⟩ = some (.int .i64 s.tm) := bx.cell 2 rfl
      have q3 : wc.cell? ⟨w.heap.size, 3, none⟩ = some (.int .i64 s.cl) := bx.cell 3 rfl
      have q4 : wc.cell? ⟨w.heap.size, 4, none⟩ = some (.bool s.ca) := bx.cell 4 rfl
      have q5 : wc.cell? ⟨w.heap.size, 5, none⟩ = some (.slice s.D s.dl.length s.dc) := bx.cell 5 rfl
      have q6 : wc.cell? ⟨w.heap.size, 6, none⟩ = some (.slice s.N s.nl.length s.nc) := bx.cell 6 rfl
      have q7 : wc.cell? ⟨w.heap.size, 7, none⟩ = some (.slice s.T s.tl.length s.tc) := bx.cell 7 rfl
      have q8 : wc.cell? ⟨w.heap.size, 8, none⟩ = some (.slice s.S s.sl.length s.sc) := bx.cell 8 rfl
      have hk := HC.out 1 wc hc0
      obtain ⟨ca, hca⟩ : ∃ ca, ca = s.ca := ⟨_, rfl⟩
      rw [← hca] at q4 hk
      clear hca
      cases ca
      · go_wp2_with fail
        go_meet
        exact ⟨⟨_, rfl⟩, Chg.refl _ _⟩
      · go_wp2_with (go_at_call 100; go_must (refine hk.mono ?_; rintro e w2 ⟨⟨k, rfl⟩, hc2⟩))
        go_meet
        exact ⟨⟨_, rfl⟩, hc2⟩
    case rest =>
      obtain ⟨⟨b, rfl⟩, hcA⟩ := hcut
      have hc1 := hc0.trans hcA (fun x hx => hx.elim)
      have bx1 := bx.keep hcA (fun h => h)
      cases b
      rotate_left
      · go_wp2_with fail
        go_ret
        exact ⟨⟨_, rfl⟩, hc1⟩
      clear hcA bx hc0
      go_upto_region 5 with fail
      go_cut [21] from 22 to 24 (fun v w' => (∃ b : Bool, v = .bool b) ∧ Chg (fun _ => False) wc w')
      case first =>
        have q0 : wc.cell? ⟨w.heap.size, 0, none⟩ = some (.int .i64 s.id) := bx1.cell 0 rfl
        have q1 : wc.cell? ⟨w.heap.size, 1, none⟩ = some (.int .i64 s.ver) := bx1.cell 1 rfl
        have q2 : wc.cell? ⟨w.heap.size, 2, none⟩ = some (.int .i64 s.tm) := bx1.cell 2 rfl
        have q3 : wc.cell? ⟨w.heap.size, 3, none⟩ = some (.int .i64 s.cl) := bx1.cell 3 rfl
        have q4 : wc.cell? ⟨w.heap.size, 4, none⟩ = some (.bool s.ca) := bx1.cell 4 rfl
        have q5 : wc.cell? ⟨w.heap.size, 5, none⟩ = some (.slice s.D s.dl.length s.dc) := bx1.cell 5 rfl
        have q6 : wc.cell? ⟨w.heap.size, 6, none⟩ = some (.slice s.N s.nl.length s.nc) := bx1.cell 6 rfl
        have q7 : wc.cell? ⟨w.heap.size, 7, none⟩ = some (.slice s.T s.tl.length s.tc) := bx1.cell 7 rfl
        have q8 : wc.cell? ⟨w.heap.size, 8, none⟩ = some (.slice s.S s.sl.length s.sc) := bx1.cell 8 rfl
        have hk := HC.out 3 wc hc1
        go_wp2_with (go_at_call 100; go_must (refine hk.mono ?_; rintro e w2 ⟨⟨k, rfl⟩, hc2⟩))
        go_meet
        exact ⟨⟨_, rfl⟩, hc2⟩
      case rest =>
        obtain ⟨⟨b, rfl⟩, hcA⟩ := hcut
        have hc2 := hc1.trans hcA (fun x hx => hx.elim)
        have bx2 := bx1.keep hcA (fun h => h)
        cases b
        rotate_left
        · go_wp2_with fail
          go_ret
          exact ⟨⟨_, rfl⟩, hc2⟩
        clear hcA bx1 hc1
        go_upto_region 7 with fail
        go_cut [25] from 26 to 31 (fun v w' => (∃ b : Bool, v = .bool b) ∧ Chg (fun _ => False) wc w')
        case first =>
          have q0 : wc.cell? ⟨w.heap.size, 0, none⟩ = some (.int .i64 s.id) := bx2.cell 0 rfl
          have q1 : wc.cell? ⟨w.heap.size, 1, none⟩ = some (.int .i64 s.ver) := bx2.cell 1 rfl
          have q2 : wc.cell? ⟨w.heap.size, 2, none⟩ = some (.int .i64 s.tm) := bx2.cell 2 rfl
          have q3 : wc.cell? ⟨w.heap.size, 3, none⟩ = some (.int .i64 s.cl) := bx2.cell 3 rfl
          have q4 : wc.cell? ⟨w.heap.size, 4, none⟩ = some (.bool s.ca) := bx2.cell 4 rfl
          have q5 : wc.cell? ⟨w.heap.size, 5, none⟩ = some (.slice s.D s.dl.length s.dc) := bx2.cell 5 rfl
          have q6 : wc.cell? ⟨w.heap.size, 6, none⟩ = some (.slice s.N s.nl.length s.nc) := bx2.cell 6 rfl
          have q7 : wc.cell? ⟨w.heap.size, 7, none⟩ = some (.slice s.T s.tl.length s.tc) := bx2.cell 7 rfl
          have q8 : wc.cell? ⟨w.heap.size, 8, none⟩ = some (.slice s.S s.sl.length s.sc) := bx2.cell 8 rfl
          have hSk : ∀ w', Chg (fun _ => False) wc w' → (w'.cell? ⟨w.heap.size, 0, none⟩ = some (.int .i64 s.id) ∧ w'.cell? ⟨w.heap.size, 1, none⟩ = some (.int .i64 s.ver) ∧ w'.cell? ⟨w.heap.size, 2, none⟩ = some (.int .i64 s.tm) ∧ w'.cell? ⟨w.heap.size, 3, none⟩ = some (.int .i64 s.cl) ∧ w'.cell? ⟨w.heap.size, 4, none⟩ = some (.bool s.ca) ∧ w'.cell? ⟨w.heap.size, 5, none⟩ = some (.slice s.D s.dl.length s.dc) ∧ w'.cell? ⟨w.heap.size, 6, none⟩ = some (.slice s.N s.nl.length s.nc) ∧ w'.cell? ⟨w.heap.size, 7, none⟩ = some (.slice s.T s.tl.length s.tc) ∧ w'.cell? ⟨w.heap.size, 8, none⟩ = some (.slice s.S s.sl.length s.sc)) := fun w' hc => ⟨hc.cell_some q0 (fun h => h), hc.cell_some q1 (fun h => h), hc.cell_some q2 (fun h => h), hc.cell_some q3 (fun h => h), hc.cell_some q4 (fun h => h), hc.cell_some q5 (fun h => h), hc.cell_some q6 (fun h => h), hc.cell_some q7 (fun h => h), hc.cell_some q8 (fun h => h)⟩
          have k0 : Chg (fun _ => False) wc wc.drew := (Chg.refl _ _).drew
          have HK := Lib.hid (fun w' (hw : Chg (fun _ => False) wc w') => HC.out 2 w' (hc2.trans hw (fun x hx => hx.elim)))
          clear hc2 bx2
          go_region_held3 (fun w' => w'.cell? ⟨w.heap.size, 0, none⟩ = some (.int .i64 s.id) ∧ w'.cell? ⟨w.heap.size, 1, none⟩ = some (.int .i64 s.ver) ∧ w'.cell? ⟨w.heap.size, 2, none⟩ = some (.int .i64 s.tm) ∧ w'.cell? ⟨w.heap.size, 3, none⟩ = some (.int .i64 s.cl) ∧ w'.cell? ⟨w.heap.size, 4, none⟩ = some (.bool s.ca) ∧ w'.cell? ⟨w.heap.size, 5, none⟩ = some (.slice s.D s.dl.length s.dc) ∧ w'.cell? ⟨w.heap.size, 6, none⟩ = some (.slice s.N s.nl.length s.nc) ∧ w'.cell? ⟨w.heap.size, 7, none⟩ = some (.slice s.T s.tl.length s.tc) ∧ w'.cell? ⟨w.heap.size, 8, none⟩ = some (.slice s.S s.sl.length s.sc)) (first | exact hSk _ k2 | exact hSk _ k0) (first
            | (go_at_call 100; (with_reducible refine (HK.out _ k0).mono ?_); rintro e w2 ⟨⟨k, rfl⟩, hc2⟩; have k2 := k0.trans hc2 (fun x hx => hx.elim))
            | fail)
          all_goals
            go_wp2_with fail
            go_meet
            exact ⟨⟨_, rfl⟩, by first | exact k2 | exact k0⟩
        case rest =>
          obtain ⟨⟨b, rfl⟩, hcA⟩ := hcut
          have hc3 := hc2.trans hcA (fun x hx => hx.elim)
          cases b
          all_goals
            go_wp2_with fail
            go_ret
            exact ⟨⟨_, rfl⟩, hc3⟩
end Go.Proofs.YtngfimjbgopgjaaGreatDoor

/- A Pen in memory; contracts of its small functions: open, next. -/
namespace Go.Proofs.YtngfimjbgopgjaaGreatDoor
open Go.RowKit
set_option linter.unusedVariables false

/-- A Pen's cells: a state, a version, a time, what it wrote. -/
def penRow (s : StV) (v n : Int) (O : Option Addr) (on oc : Nat) : Array Value := #[.int .i64 s.id, .int .i64 s.ver, .int .i64 s.tm, .int .i64 s.cl, .bool s.ca, .slice s.D s.dl.length s.dc, .slice s.N s.nl.length s.nc, .slice s.T s.tl.length s.tc, .slice s.S s.sl.length s.sc, .int .i64 v, .int .i64 n, .slice O on oc]
/-- More is known of a state: few timers; signals not more than events; IDs to 200. -/
structure StB (s : StV) : Prop where
  id0 : 0 ≤ s.id
  id2 : s.id ≤ 200
  t8 : s.tl.length ≤ 8
  sid : (s.sl.length : Int) ≤ s.id
theorem BoxAt.set9of12 {w : World} {g : Nat} {T : TypeId} {a0 a1 a2 a3 a4 a5 a6 a7 a8 a9 a10 a11 : Value} (h : BoxAt w g T #[a0, a1, a2, a3, a4, a5, a6, a7, a8, a9, a10, a11]) (u0 u1 u2 u3 u4 u5 u6 u7 u8 : Value) : BoxAt (((((((((w.setCell ⟨g, 0, none⟩ u0).setCell ⟨g, 1, none⟩ u1).setCell ⟨g, 2, none⟩ u2).setCell ⟨g, 3, none⟩ u3).setCell ⟨g, 4, none⟩ u4).setCell ⟨g, 5, none⟩ u5).setCell ⟨g, 6, none⟩ u6).setCell ⟨g, 7, none⟩ u7).setCell ⟨g, 8, none⟩ u8) g T #[u0, u1, u2, u3, u4, u5, u6, u7, u8, a9, a10, a11] := by
  have h := ((((((((h.set 0 u0).set 1 u1).set 2 u2).set 3 u3).set 4 u4).set 5 u5).set 6 u6).set 7 u7).set 8 u8
  simpa using h
set_option maxHeartbeats 2000000 in
set_option maxRecDepth 20000 in
theorem open_any (s : StV) (v n : Int) (O : Option Addr) (on oc : Nat) (p : Nat) (w : World) (h : BoxAt w p 80 (penRow s v n O on oc)) :
    Calls Tryz.prog 95 #[.pointer (some ⟨p, 0, none⟩)] w fun e w' => SomeI e ∧ w = w' := by
  unfold penRow at h
  have q0 : w.cell? ⟨p, 0, none⟩ = some (.int .i64 s.id) := h.cell 0 rfl
  have q3 : w.cell? ⟨p, 3, none⟩ = some (.int .i64 s.cl) := h.cell 3 rfl
  go_enter Tryz.func95, Tryz.ntmps95
  go_wp2_with fail
  all_goals
    go_ret
    exact ⟨⟨_, rfl⟩, rfl⟩

set_option maxHeartbeats 4000000 in
set_option maxRecDepth 20000 in
theorem next_any (s : StV) (v n : Int) (O : Option Addr) (on oc : Nat) (p : Nat) (f : EvF) (w : World) (h : BoxAt w p 80 (penRow s v n O on oc)) (h0 : 0 ≤ s.id) (h2 : s.id ≤ 200) :
    Calls Tryz.prog 102 #[.pointer (some ⟨p, 0, none⟩), f.val] w fun e w' => (∃ t : Int, e = .returned (EvF.val ⟨s.id + 1, v, t, f.ty, f.node, f.m, f.nm, f.A, f.c, f.bs, f.D, f.dc, f.dl⟩)) ∧ Chg (fun _ => False) w w' := by
  unfold penRow at h
  have e1 : IntKind.i64.wrap (s.id + 1) = s.id + 1 := IntWalk.i64_in _ (by omega)
  unfold EvF.val EvF.row
  obtain ⟨w1, hw1⟩ : ∃ w1, w1 = (w.alloc (.cells #[.int .i64 f.id, .int .i64 f.ver, .int .i64 f.tm, .int .i64 f.ty, .int .i64 f.node, .int .i64 f.m, .string f.nm, .slice f.A f.bs.length f.c, .slice f.D f.dl.length f.dc] 32)).alloc (.cells #[.int .i64 0, .int .i64 0, .int .i64 0, .int .i64 0, .int .i64 0, .int .i64 0, .string { data := #[] }, .slice none 0 0, .slice none 0 0] 32) := ⟨_, rfl⟩
  have bx : BoxAt w1 w.heap.size 32 #[.int .i64 f.id, .int .i64 f.ver, .int .i64 f.tm, .int .i64 f.ty, .int .i64 f.node, .int .i64 f.m, .string f.nm, .slice f.A f.bs.length f.c, .slice f.D f.dl.length f.dc] := by
    rw [hw1]
    exact (BoxAt.new w _ _).keep ((Chg.refl (fun _ => False) _).alloc _) (fun h => h)
  have bz : BoxAt w1 (w.heap.size + 1) 32 #[.int .i64 0, .int .i64 0, .int .i64 0, .int .i64 0, .int .i64 0, .int .i64 0, .string { data := #[] }, .slice none 0 0, .slice none 0 0] := by
    rw [hw1]
    exact box2 w _ _ _
  have hc1 : Chg (fun _ => False) w w1 := by rw [hw1]; exact ((Chg.refl _ _).alloc _).alloc _
  have hpl := h.lt
  have hp := h.keep hc1 (fun h => h)
  clear h
  go_enter Tryz.func102, Tryz.ntmps102
  go_upto_region 1 with fail
  rw [← hw1]
  clear hw1
  obtain ⟨g, hg⟩ : ∃ g, g = w.heap.size := ⟨_, rfl⟩
  rw [← hg] at bx bz ⊢
  have q0 : w1.cell? ⟨p, 0, none⟩ = some (.int .i64 s.id) := hp.cell 0 rfl
  have q2 : w1.cell? ⟨p, 2, none⟩ = some (.int .i64 s.tm) := hp.cell 2 rfl
  have q9 : w1.cell? ⟨p, 9, none⟩ = some (.int .i64 v) := hp.cell 9 rfl
  have q10 : w1.cell? ⟨p, 10, none⟩ = some (.int .i64 n) := hp.cell 10 rfl
  have hpg : p ≠ g := by omega
  have hgp : g ≠ p := by omega
  have y0 : w1.cell? ⟨g, 0, none⟩ = some (.int .i64 f.id) := bx.cell 0 rfl
  have y1 : w1.cell? ⟨g, 1, none⟩ = some (.int .i64 f.ver) := bx.cell 1 rfl
  have z0 := bx.fz 0
  have z1 := bx.fz 1
  have HG := Lib.hid hg
  clear hg
  go_upto_region 3 with fail
  obtain ⟨w2, hw2⟩ : ∃ w2, w2 = (w1.setCell ⟨g, 0, none⟩ (.int .i64 (s.id + 1))).setCell ⟨g, 1, none⟩ (.int .i64 v) := ⟨_, rfl⟩
  rw [← hw2]
  have bx2 : BoxAt w2 g 32 #[.int .i64 (s.id + 1), .int .i64 v, .int .i64 f.tm, .int .i64 f.ty, .int .i64 f.node, .int .i64 f.m, .string f.nm, .slice f.A f.bs.length f.c, .slice f.D f.dl.length f.dc] := by rw [hw2]; simpa using (bx.set 0 (.int .i64 (s.id + 1))).set 1 (.int .i64 v)
  have hc2 : Chg (· = g) w1 w2 := by rw [hw2]; exact ((Chg.refl (· = g) w1).setCell (p := ⟨g, 0, none⟩) (.inl rfl) _).setCell (p := ⟨g, 1, none⟩) (.inl rfl) _
  have hp2 := hp.keep hc2 hpg
  have bz2 := bz.keep hc2 (fun (e : g + 1 = g) => by omega)
  clear hw2 y0 y1 z0 z1 q0 q2 q9 q10 bx bz hp
  have q2 : w2.cell? ⟨p, 2, none⟩ = some (.int .i64 s.tm) := hp2.cell 2 rfl
  have q10 : w2.cell? ⟨p, 10, none⟩ = some (.int .i64 n) := hp2.cell 10 rfl
  have y2 : w2.cell? ⟨g, 2, none⟩ = some (.int .i64 f.tm) := bx2.cell 2 rfl
  have z2 := bx2.fz 2
  go_cut [3] from 17 to 27 (fun v' w' => v' = .pointer (some ⟨g, 0, none⟩) ∧ ∃ t : Int, BoxAt w' g 32 #[.int .i64 (s.id + 1), .int .i64 v, .int .i64 t, .int .i64 f.ty, .int .i64 f.node, .int .i64 f.m, .string f.nm, .slice f.A f.bs.length f.c, .slice f.D f.dl.length f.dc] ∧ Chg (· = g) w2 w')
  case first =>
    go_region
    all_goals
      go_wp2_with fail
      go_meet
      exact ⟨rfl, _, (bx2.set 2 _), (chg_put w2 g 2 _).drew⟩
  case rest =>
    obtain ⟨rfl, t, bE, hc3⟩ := hcut
    have bz := bz2.keep hc3 (fun (e : g + 1 = g) => by omega)
    have hc4 : Chg (fun _ => False) w wc := hc1.trans (hc2.trans hc3 (fun x hx => .inl hx)) (fun x hx => .inr (by rw [hx, HG.out]; exact Nat.le_refl _))
    clear bx2 hc2 hp2 bz2 q2 q10 y2 z2 hc3 hc1
    have s0 : wc.cell? ⟨g, 0, none⟩ = some (.int .i64 (s.id + 1)) := bE.cell 0 rfl
    have s1 : wc.cell? ⟨g, 1, none⟩ = some (.int .i64 v) := bE.cell 1 rfl
    have s2 : wc.cell? ⟨g, 2, none⟩ = some (.int .i64 t) := bE.cell 2 rfl
    have s3 : wc.cell? ⟨g, 3, none⟩ = some (.int .i64 f.ty) := bE.cell 3 rfl
    have s4 : wc.cell? ⟨g, 4, none⟩ = some (.int .i64 f.node) := bE.cell 4 rfl
    have s5 : wc.cell? ⟨g, 5, none⟩ = some (.int .i64 f.m) := bE.cell 5 rfl
    have s6 : wc.cell? ⟨g, 6, none⟩ = some (.string f.nm) := bE.cell 6 rfl
    have s7 : wc.cell? ⟨g, 7, none⟩ = some (.slice f.A f.bs.length f.c) := bE.cell 7 rfl
    have s8 : wc.cell? ⟨g, 8, none⟩ = some (.slice f.D f.dl.length f.dc) := bE.cell 8 rfl
    have t0 := bz.cell 0 rfl
    have z0 := bz.fz 0
    have t1 := bz.cell 1 rfl
    have z1 := bz.fz 1
    have t2 := bz.cell 2 rfl
    have z2 := bz.fz 2
    have t3 := bz.cell 3 rfl
    have z3 := bz.fz 3
    have t4 := bz.cell 4 rfl
    have z4 := bz.fz 4
    have t5 := bz.cell 5 rfl
    have z5 := bz.fz 5
    have t6 := bz.cell 6 rfl
    have z6 := bz.fz 6
    have t7 := bz.cell 7 rfl
    have z7 := bz.fz 7
    have t8 := bz.cell 8 rfl
    have z8 := bz.fz 8
    go_wp2_with fail
    (try simp only [Exit.inBlock, Exit.then])
    refine bodyPost_ret (results_cell_row rfl _ _ (g + 1) _ _ _ _ rfl (BoxAt.set9 bz _ _ _ _ _ _ _ _ _) Tryz.underlying32 rfl evSize) rfl ?_
    exact ⟨⟨t, rfl⟩, hc4.trans (chg_set9 wc (g + 1) (.int .i64 (s.id + 1)) (.int .i64 v) (.int .i64 t) (.int .i64 f.ty) (.int .i64 f.node) (.int .i64 f.m) (.string f.nm) (.slice f.A f.bs.length f.c) (.slice f.D f.dl.length f.dc)) (fun x hx => .inr (by rw [hx, HG.out]; omega))⟩
end Go.Proofs.YtngfimjbgopgjaaGreatDoor
