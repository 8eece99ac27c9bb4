/- Contract of cutoverref11.applyNode: one node of the state is turned, or none. -/
import Derived.Test.YtngfimjbgopgjaaGreatDoorPenAll
namespace Go.Proofs.YtngfimjbgopgjaaGreatDoor
open Go.RowKit
set_option linter.unusedVariables false

theorem ndC_set (a b c : Int) (A : Option Addr) (n cc : Nat) : ∀ (l : List Nd) (k : Nat) (h : k < l.length), ((((ndC l).set (k * 4) (.int .i64 a)).set (k * 4 + 1) (.int .i64 b)).set (k * 4 + 2) (.int .i64 c)).set (k * 4 + 3) (.slice A n cc) = ndC (l.set k ⟨a, b, c, A, n, cc⟩)
  | x :: l, 0, _ => rfl
  | x :: l, k + 1, h => by
    have := ndC_set a b c A n cc l k (by simpa using h)
    rw [show (k + 1) * 4 = k * 4 + 1 + 1 + 1 + 1 by omega]
    simp only [ndC, List.set_cons_succ, this]
/-- Nodes of the state turned, or not; nothing else. -/
def NodesTurned (s : StV) (w w' : World) : Prop := ∃ nl : List Nd, nl.length = s.nl.length ∧ w'.ownsRow 0 114 4 (.slice s.N s.nl.length s.nc) s.nl.length (ndC nl) ∧ Chg (In s.N) w w'
theorem NodesTurned.still {s : StV} {w w' : World} (ho : w.ownsRow 0 114 4 (.slice s.N s.nl.length s.nc) s.nl.length (ndC s.nl)) (hc : Chg (fun _ => False) w w') : NodesTurned s w w' :=
  ⟨s.nl, rfl, hc.own ho (fun _ _ h => h), hc.mono (fun x h => h.elim)⟩
theorem NodesTurned.put {s : StV} {w wc : World} {g : Nat} (hN : s.N = some ⟨g, 0, none⟩) (ho : wc.ownsRow 0 114 4 (.slice (some ⟨g, 0, none⟩) s.nl.length s.nc) s.nl.length (ndC s.nl)) (hc : Chg (fun _ => False) w wc) (k : Nat) (hk : k < s.nl.length) (a b c : Int) (A : Option Addr) (m cc : Nat) :
    NodesTurned s w ((((wc.setCell ⟨g, k * 4, none⟩ (.int .i64 a)).setCell ⟨g, k * 4 + 1, none⟩ (.int .i64 b)).setCell ⟨g, k * 4 + 2, none⟩ (.int .i64 c)).setCell ⟨g, k * 4 + 3, none⟩ (.slice A m cc)) := by
  refine ⟨s.nl.set k ⟨a, b, c, A, m, cc⟩, List.length_set, ?_, ?_⟩
  · rw [← ndC_set a b c A m cc s.nl k hk, hN]
    exact ((((ho.stored _ _).1.stored _ _).1.stored _ _).1.stored _ _).1
  · rw [hN]
    refine (hc.mono (fun x h => h.elim)).trans (T := In (some ⟨g, 0, none⟩)) ?_ (fun x h => .inl h)
    exact ((((Chg.refl (In (some ⟨g, 0, none⟩)) wc).setCell (p := ⟨g, k * 4, none⟩) (.inl rfl) _).setCell (p := ⟨g, k * 4 + 1, none⟩) (.inl rfl) _).setCell (p := ⟨g, k * 4 + 2, none⟩) (.inl rfl) _).setCell (p := ⟨g, k * 4 + 3, none⟩) (.inl rfl) _
theorem NodesTurned.drew {s : StV} {w w' : World} (h : NodesTurned s w w') : NodesTurned s w w'.drew := by
  obtain ⟨nl, h1, h2, h3⟩ := h
  exact ⟨nl, h1, h2, h3.drew⟩

set_option maxHeartbeats 4000000 in
set_option maxRecDepth 20000 in
theorem applyNode_any (s : StV) (p : Nat) (f : EvF) (w : World) (hp : BoxAt w p 78 s.row) (h : StOk w s) (hk0 : 0 ≤ f.node) (hk7 : f.node ≤ 7) (ho : w.ownsRow 0 114 4 (.slice s.N s.nl.length s.nc) s.nl.length (ndC s.nl)) (hpN : ¬ In s.N p) :
    Calls Tryz.prog 98 #[.pointer (some ⟨p, 0, none⟩), f.val] w fun e w' => SomeI e ∧ NodesTurned s w w' := by
  obtain ⟨id, ver, tm, ty, node, m, nm, A, c, bs, D, dc, dl⟩ := f
  simp only at hk0 hk7
  obtain ⟨k, rfl⟩ : ∃ k : Nat, node = (k : Int) := ⟨node.toNat, by omega⟩
  have HH := Lib.hid h
  have HO := Lib.hid ho
  have h8 : s.nl.length ≤ 8 := by rw [← h.dn]; exact h.d8
  have HDN := Lib.hid h.dn
  clear h ho
  unfold EvF.val EvF.row
  unfold StV.row at hp
  simp only
  obtain ⟨w1, hw1⟩ : ∃ w1, w1 = w.alloc (.cells #[.int .i64 id, .int .i64 ver, .int .i64 tm, .int .i64 ty, .int .i64 k, .int .i64 m, .string nm, .slice A bs.length c, .slice D dl.length dc] 32) := ⟨_, rfl⟩
  have bx : BoxAt w1 w.heap.size 32 #[.int .i64 id, .int .i64 ver, .int .i64 tm, .int .i64 ty, .int .i64 k, .int .i64 m, .string nm, .slice A bs.length c, .slice D dl.length dc] := by rw [hw1]; exact BoxAt.new w _ _
  have hc1 : Chg (fun _ => False) w w1 := by rw [hw1]; exact (Chg.refl _ _).alloc _
  have hpl := hp.lt
  have hp1 := hp.keep hc1 (fun h => h)
  clear hp
  go_enter Tryz.func98, Tryz.ntmps98
  go_upto_region 1 with fail
  rw [← hw1]
  clear hw1
  obtain ⟨g, hg⟩ : ∃ g, g = w.heap.size := ⟨_, rfl⟩
  rw [← hg] at bx ⊢
  have HG := Lib.hid hg
  have hpg : p ≠ g := by omega
  have hgp : g ≠ p := by omega
  clear hg
  have q4 : w1.cell? ⟨g, 4, none⟩ = some (.int .i64 k) := bx.cell 4 rfl
  have p6 : w1.cell? ⟨p, 6, none⟩ = some (.slice s.N s.nl.length s.nc) := hp1.cell 6 rfl
  by_cases hkn : s.nl.length ≤ k
  · have f1 : decide ((s.nl.length : Int) ≤ (k : Int)) = true := by simpa using hkn
    have j1 : (s.nl.length : Int) ≤ (k : Int) := by omega
    go_quiet (fail)
    go_wp2_with fail
    go_ret
    exact ⟨⟨_, rfl⟩, NodesTurned.still HO.out (hc1.drewN _)⟩
  have hkl : k < s.nl.length := by omega
  obtain ⟨gN, hN⟩ : ∃ gN, s.N = some ⟨gN, 0, none⟩ := by
    rcases HO.out.2 with ⟨h0, h1⟩ | ⟨g9, cap9, cur9, hv9, _⟩
    · omega
    · injection hv9 with h9; exact ⟨g9, h9⟩
  have HON := Lib.hid (show w.ownsRow 0 114 4 (.slice (some ⟨gN, 0, none⟩) s.nl.length s.nc) s.nl.length (ndC s.nl) by rw [← hN]; exact HO.out)
  have hNl : gN < w.heap.size := (own_lt HON.out rfl).2
  have hpN2 : p ≠ gN := fun e => hpN (by rw [hN, e]; rfl)
  have hNp : gN ≠ p := fun e => hpN2 e.symm
  have hgN : g ≠ gN := by have := HG.out; omega
  have f1 : decide ((s.nl.length : Int) ≤ (k : Int)) = false := by simp; omega
  have j0 : (0 : Int) ≤ (k : Int) := by omega
  have j1 : ¬ (s.nl.length : Int) ≤ (k : Int) := by omega
  have j2 : (k : Int) < (s.nl.length : Int) := by omega
  rw [hN] at p6
  have HN := Lib.hid hN
  clear hN hpN
  obtain ⟨c0, c1, c2, c3⟩ := ndC_get s.nl k hkl
  obtain ⟨x, hx⟩ : ∃ x, x = s.nl[k] := ⟨_, rfl⟩
  rw [← hx] at c0 c1 c2 c3
  have hrd := (Rd.of_own HON.out).keep hc1 (fun _ _ h => h)
  have d0 := hrd.cells rfl _ _ c0
  have d1 := hrd.cells rfl _ _ c1
  have d2 := hrd.cells rfl _ _ c2
  have d3 := hrd.cells rfl _ _ c3
  simp only [Nat.zero_add] at d0 d1 d2 d3
  clear hx c0 c1 c2 c3 hrd
  have hp1l := bx.lt
  have hSk : ∀ w', Chg (fun _ => False) w1 w' → (w'.cell? ⟨g, 4, none⟩ = some (.int .i64 k) ∧ w'.cell? ⟨p, 6, none⟩ = some (.slice (some ⟨gN, 0, none⟩) s.nl.length s.nc) ∧ w'.cell? ⟨gN, k * 4, none⟩ = some (.int .i64 x.st) ∧ w'.cell? ⟨gN, k * 4 + 1, none⟩ = some (.int .i64 x.tr) ∧ w'.cell? ⟨gN, k * 4 + 2, none⟩ = some (.int .i64 x.du) ∧ w'.cell? ⟨gN, k * 4 + 3, none⟩ = some (.slice x.A x.n x.c)) := fun w' hc => ⟨hc.cell_some q4 (fun h => h), hc.cell_some p6 (fun h => h), hc.cell_some d0 (fun h => h), hc.cell_some d1 (fun h => h), hc.cell_some d2 (fun h => h), hc.cell_some d3 (fun h => h)⟩
  go_cut [16] from 9 to 15 (fun v w' => v = .bool false ∧ Chg (fun _ => False) w1 w')
  case first =>
    go_quiet (fail)
    go_wp2_with fail
    go_meet
    exact ⟨by first | rfl | trivial, (Chg.refl _ _).drewN _⟩
  obtain ⟨rfl, hk0⟩ := hcut
  go_upto_region 3 with fail
  go_cut [5] from 17 to 24 (fun v w' => ∃ gn, v = .pointer (some ⟨gn, 0, none⟩) ∧ w1.heap.size ≤ gn ∧ BoxAt w' gn 114 #[.int .i64 x.st, .int .i64 x.tr, .int .i64 x.du, .slice x.A x.n x.c] ∧ Chg (fun _ => False) w1 w')
  case first =>
    go_region_held3 (fun w' => w'.cell? ⟨g, 4, none⟩ = some (.int .i64 k) ∧ w'.cell? ⟨p, 6, none⟩ = some (.slice (some ⟨gN, 0, none⟩) s.nl.length s.nc) ∧ w'.cell? ⟨gN, k * 4, none⟩ = some (.int .i64 x.st) ∧ w'.cell? ⟨gN, k * 4 + 1, none⟩ = some (.int .i64 x.tr) ∧ w'.cell? ⟨gN, k * 4 + 2, none⟩ = some (.int .i64 x.du) ∧ w'.cell? ⟨gN, k * 4 + 3, none⟩ = some (.slice x.A x.n x.c)) (first | exact hSk _ (hk0.drew.alloc _) | exact hSk _ hk0.drew) (first | fail)
    all_goals
      go_wp2_with fail
      go_meet
      exact ⟨wc.heap.size, rfl, hk0.size, BoxAt.new wc _ _, (hk0.alloc _).drew⟩
  case rest =>
    obtain ⟨gn, rfl, hgn, bn, hc2⟩ := hcut
    have bx2 := bx.keep hc2 (fun h => h)
    have hp2 := hp1.keep hc2 (fun h => h)
    have hc3 := hc1.trans hc2 (fun x hx => hx.elim)
    obtain ⟨e0, e1, e2, e3, e4, e5⟩ := hSk _ hc2
    rw [HN.out] at hp2
    have hgg : g < gn := by omega
    have hNn : gN ≠ gn := by have := HG.out; omega
    have hpn : p ≠ gn := by have := HG.out; omega
    clear q4 p6 d0 d1 d2 d3 hSk bx hp1 hc1 hc2 hk0 hp1l
    go_upto_region 4 with fail
    have q3 : wc.cell? ⟨g, 3, none⟩ = some (.int .i64 ty) := bx2.cell 3 rfl
    by_cases hty : ty = 2
    · subst hty
      go_upto_region 6 with fail
      have r0 : wc.cell? ⟨p, 0, none⟩ = some (.int .i64 s.id) := hp2.cell 0 rfl
      have r1 : wc.cell? ⟨p, 1, none⟩ = some (.int .i64 s.ver) := hp2.cell 1 rfl
      have r2 : wc.cell? ⟨p, 2, none⟩ = some (.int .i64 s.tm) := hp2.cell 2 rfl
      have r3 : wc.cell? ⟨p, 3, none⟩ = some (.int .i64 s.cl) := hp2.cell 3 rfl
      have r4 : wc.cell? ⟨p, 4, none⟩ = some (.bool s.ca) := hp2.cell 4 rfl
      have r5 : wc.cell? ⟨p, 5, none⟩ = some (.slice s.D s.dl.length s.dc) := hp2.cell 5 rfl
      have r6 : wc.cell? ⟨p, 6, none⟩ = some (.slice (some ⟨gN, 0, none⟩) s.nl.length s.nc) := hp2.cell 6 rfl
      have r7 : wc.cell? ⟨p, 7, none⟩ = some (.slice s.T s.tl.length s.tc) := hp2.cell 7 rfl
      have r8 : wc.cell? ⟨p, 8, none⟩ = some (.slice s.S s.sl.length s.sc) := hp2.cell 8 rfl
      have hrdy := readyNodes_any s wc (HH.out.still hc3)
      unfold StV.val StV.row at hrdy
      rw [HN.out] at hrdy
      go_upto_region 7 with (go_at_call 96; go_must (refine hrdy.mono ?_; rintro e w2 ⟨L, ln, lc, l, rfl, hll, hln, hlb, hlo, hc4⟩; have HLL := Lib.hid hll; clear hll))
      have hlr := Rd.of_own hlo
      have hc5 := hc3.trans hc4 (fun x hx => hx.elim)
      have bx3 := bx2.keep hc4 (fun h => h)
      have hp3 := hp2.keep hc4 (fun h => h)
      have bn3 := bn.keep hc4 (fun h => h)
      clear r0 r1 r2 r3 r4 r5 r6 r7 r8 hlo bx2 hp2 bn e0 e1 e2 e3 e4 e5 q3 hc3 hc4 hlb
      go_wp2_with fail
      go_loopw [6, 8] (fun r i w' => ∃ (j : Nat) (b : Bool), j ≤ ln ∧ r = .bool b ∧ i = .int .i64 j ∧ Chg (fun _ => False) w2 w') (fun _ i _ => ln - (intOf i).toNat)
      case atStart => exact ⟨0, false, by omega, rfl, rfl, Chg.refl _ _⟩
      case round =>
        obtain ⟨j, b, hj, rfl, rfl, hcj⟩ := hrel
        by_cases hjn : j < ln
        · obtain ⟨b5, o5, hLA, hq5⟩ := (hlr.keep hcj (fun _ _ h => h)).at_ (k := j) (by rw [List.length_map, HLL.out]; exact hjn)
          rw [List.getElem_map] at hq5
          obtain ⟨y, hy⟩ : ∃ y, y = l[j]'(by rw [HLL.out]; exact hjn) := ⟨_, rfl⟩
          rw [← hy] at hq5
          clear hy
          have hLA' := hLA
          subst hLA'
          have q4 : wr.cell? ⟨g, 4, none⟩ = some (.int .i64 k) := (bx3.keep hcj (fun h => h)).cell 4 rfl
          have i0 : (0 : Int) ≤ (j : Int) := by omega
          have i1 : (j : Int) < (ln : Int) := by omega
          cases b
          all_goals
            go_wp2_with fail
            go_quiet (fail)
            go_wp2_with fail
            go_roundw
            case rel => exact ⟨j + 1, _, by omega, rfl, by go_num, hcj.drewN _⟩
            case measure => simp [intOf]; omega
        · have i1 : ¬ (j : Int) < (ln : Int) := by omega
          have bx4 := bx3.keep hcj (fun h => h)
          have hp4 := hp3.keep hcj (fun h => h)
          have bn4 := bn3.keep hcj (fun h => h)
          have hc6 := hc5.trans hcj (fun x hx => hx.elim)
          clear bx3 hp3 bn3 hlr hc5
          go_upto_region 11 with fail
          go_cut [57] from 48 to 56 (fun v w' => (∃ b : Bool, v = .bool b) ∧ w' = wr)
          case first =>
            have q5 : wr.cell? ⟨g, 5, none⟩ = some (.int .i64 m) := bx4.cell 5 rfl
            have n1 : wr.cell? ⟨gn, 1, none⟩ = some (.int .i64 x.tr) := bn4.cell 1 rfl
            cases b
            all_goals
              go_wp2_with fail
              go_meet
              exact ⟨⟨_, rfl⟩, rfl⟩
          case rest =>
            obtain ⟨⟨b, rfl⟩, rfl⟩ := hcut
            cases b
            rotate_left
            · go_wp2_with fail
              go_ret
              exact ⟨⟨_, rfl⟩, NodesTurned.still HO.out hc6⟩
            have hkd : k < s.dl.length := by have := HDN.out; omega
            have hds := HH.out.ds.still hc6
            obtain ⟨bD, oD, hD, _⟩ := hds.rd.at_ (k := 0) (by rw [dfC_len]; omega)
            obtain ⟨_, _, t2⟩ := dfC_get s.dl k hkd
            have u2 := hds.rd.cells hD _ _ t2
            obtain ⟨le, hle⟩ : ∃ le, le = s.dl[k].le := ⟨_, rfl⟩
            rw [← hle] at u2
            rw [← Nat.add_assoc] at u2
            have hoN := hc6.own HON.out (fun _ _ h => h)
            have hrN := Rd.of_own hoN
            have m0 := hrN.cells rfl _ _ (ndC_get s.nl k hkl).1
            have m1 := hrN.cells rfl _ _ (ndC_get s.nl k hkl).2.1
            have m2 := hrN.cells rfl _ _ (ndC_get s.nl k hkl).2.2.1
            have m3 := hrN.cells rfl _ _ (ndC_get s.nl k hkl).2.2.2
            simp only [Nat.zero_add] at m0 m1 m2 m3
            have y0 := hoN.frozenAt (k * 4)
            have y1 := hoN.frozenAt (k * 4 + 1)
            have y2 := hoN.frozenAt (k * 4 + 2)
            have y3 := hoN.frozenAt (k * 4 + 3)
            have q2 : wc.cell? ⟨g, 2, none⟩ = some (.int .i64 tm) := bx4.cell 2 rfl
            have q4 : wc.cell? ⟨g, 4, none⟩ = some (.int .i64 k) := bx4.cell 4 rfl
            have q5 : wc.cell? ⟨g, 5, none⟩ = some (.int .i64 m) := bx4.cell 5 rfl
            have r5 : wc.cell? ⟨p, 5, none⟩ = some (.slice s.D s.dl.length s.dc) := hp4.cell 5 rfl
            have r6 : wc.cell? ⟨p, 6, none⟩ = some (.slice (some ⟨gN, 0, none⟩) s.nl.length s.nc) := hp4.cell 6 rfl
            rw [hD] at r5
            have j3 : (k : Int) < (s.dl.length : Int) := by omega
            have HP := Lib.hid (fun a b c A n cc => NodesTurned.put (s := s) HN.out hoN hc6 k hkl a b c A n cc)
            clear hle t2 hD hds hrN hoN
            go_upto_region 13 with fail
            go_region
            all_goals
              go_wp2_with fail
              go_ret
              exact ⟨⟨_, rfl⟩, (HP.out _ _ _ _ _ _).drew⟩
    · go_upto_region 15 with fail
      have HTY := Lib.hid hty
      clear hty
      go_cut [89] from 25 to 88 (fun v w' => (∃ b : Bool, v = .bool b) ∧ w' = wc)
      case first =>
        have q5 : wc.cell? ⟨g, 5, none⟩ = some (.int .i64 m) := bx2.cell 5 rfl
        have n0 : wc.cell? ⟨gn, 0, none⟩ = some (.int .i64 x.st) := bn.cell 0 rfl
        have n1 : wc.cell? ⟨gn, 1, none⟩ = some (.int .i64 x.tr) := bn.cell 1 rfl
        by_cases hst : x.st = 1
        · have f0 : (x.st != 1) = false := by simpa using hst
          have f2 : decide (x.st = 1) = true := by simpa using hst
          have HST := Lib.hid hst
          clear hst
          go_wp2_with fail
          go_meet
          exact ⟨⟨_, rfl⟩, rfl⟩
        · have f0 : (x.st != 1) = true := by simpa using hst
          have f2 : decide (x.st = 1) = false := by simpa using hst
          go_wp2_with fail
          go_meet
          exact ⟨⟨_, rfl⟩, rfl⟩
      case rest =>
        obtain ⟨⟨b, rfl⟩, rfl⟩ := hcut
        cases b
        rotate_left
        · go_wp2_with fail
          go_ret
          exact ⟨⟨_, rfl⟩, NodesTurned.still HO.out hc3⟩
        have n2 : wc.cell? ⟨gn, 2, none⟩ = some (.int .i64 x.du) := bn.cell 2 rfl
        have z2 := bn.fz 2
        go_upto_block 2 with fail
        obtain ⟨w4, hw4⟩ : ∃ w4, w4 = wc.setCell ⟨gn, 2, none⟩ (.int .i64 0) := ⟨_, rfl⟩
        have bn4 : BoxAt w4 gn 114 #[.int .i64 x.st, .int .i64 x.tr, .int .i64 0, .slice x.A x.n x.c] := by rw [hw4]; simpa using bn.set 2 (.int .i64 0)
        have hc4 : Chg (· = gn) wc w4 := by rw [hw4]; exact chg_put _ _ _ _
        have hwn : ∀ x, x = gn → w.heap.size ≤ x := fun x hx => by rw [hx]; have := HG.out; omega
        have hc5 : Chg (fun _ => False) w w4 := hc3.trans hc4 (fun x hx => .inr (hwn x hx))
        have bx4 := bx2.keep hc4 (fun (e : g = gn) => by omega)
        have hp4 := hp2.keep hc4 hpn
        rw [← hw4]
        clear hw4 n2 z2 bn bx2 hp2 e0 e1 e2 e3 e4 e5 q3 hc4 hc3
        go_cut [5] from 92 to 113 (fun v w' => v = .pointer (some ⟨gn, 0, none⟩) ∧ ∃ (a b c : Int) (A' : Option Addr) (n' c' : Nat), BoxAt w' gn 114 #[.int .i64 a, .int .i64 b, .int .i64 c, .slice A' n' c'] ∧ Chg (· = gn) w4 w')
        case first =>
          have q3 : w4.cell? ⟨g, 3, none⟩ = some (.int .i64 ty) := bx4.cell 3 rfl
          have n0 : w4.cell? ⟨gn, 0, none⟩ = some (.int .i64 x.st) := bn4.cell 0 rfl
          have n1 : w4.cell? ⟨gn, 1, none⟩ = some (.int .i64 x.tr) := bn4.cell 1 rfl
          have n3 : w4.cell? ⟨gn, 3, none⟩ = some (.slice x.A x.n x.c) := bn4.cell 3 rfl
          have z0 := bn4.fz 0
          have z3 := bn4.fz 3
          by_cases h3 : ty = 3
          · have q7 : w4.cell? ⟨g, 7, none⟩ = some (.slice A bs.length c) := bx4.cell 7 rfl
            subst h3
            go_wp2_with fail
            go_meet
            exact ⟨rfl, _, _, _, _, _, _, (bn4.set 0 (.int .i64 2)).set 3 _, (chg_put _ _ _ _).trans (chg_put _ _ _ _) (fun x hx => .inl hx)⟩
          · have hkd : k < s.dl.length := by have := HDN.out; omega
            have hds := HH.out.ds.still hc5
            obtain ⟨bD, oD, hD, _⟩ := hds.rd.at_ (k := 0) (by rw [dfC_len]; omega)
            obtain ⟨_, t1, _⟩ := dfC_get s.dl k hkd
            have u1 := hds.rd.cells hD _ _ t1
            obtain ⟨tr, htr⟩ : ∃ tr, tr = s.dl[k].tr := ⟨_, rfl⟩
            rw [← htr] at u1
            rw [← Nat.add_assoc] at u1
            have q4 : w4.cell? ⟨g, 4, none⟩ = some (.int .i64 k) := bx4.cell 4 rfl
            have r5 : w4.cell? ⟨p, 5, none⟩ = some (.slice s.D s.dl.length s.dc) := hp4.cell 5 rfl
            rw [hD] at r5
            have j3 : (k : Int) < (s.dl.length : Int) := by omega
            have HBN := Lib.hid bn4
            clear htr t1 hD hds
            go_upto_region 22 with fail
            go_cut [100] from 92 to 112 (fun v w' => (∃ b : Bool, v = .bool b) ∧ Chg (fun _ => False) w4 w')
            case first =>
              go_quiet (fail)
              go_wp2_with fail
              go_meet
              exact ⟨⟨_, rfl⟩, (Chg.refl _ _).drewN _⟩
            case rest =>
              obtain ⟨⟨b, rfl⟩, hcX⟩ := hcut
              have bn5 := HBN.out.keep hcX (fun h => h)
              have n0 : wc.cell? ⟨gn, 0, none⟩ = some (.int .i64 x.st) := bn5.cell 0 rfl
              have z0 := bn5.fz 0
              clear u1 q4 r5
              cases b
              all_goals
                go_wp2_with fail
                go_meet
                exact ⟨rfl, _, _, _, _, _, _, bn5.set 0 _, (hcX.mono (fun x hx => hx.elim)).trans (chg_put _ _ _ _) (fun x hx => .inl hx)⟩
        case rest =>
          obtain ⟨rfl, a, b, cc, A', n', c', bn5, hcX⟩ := hcut
          have hc6 := hc5.trans hcX (fun x hx => .inr (hwn x hx))
          have bx5 := bx4.keep hcX (fun (e : g = gn) => by omega)
          have hp5 := hp4.keep hcX hpn
          have hoN := hc6.own HON.out (fun _ _ h => h)
          have hrN := Rd.of_own hoN
          have m0 := hrN.cells rfl _ _ (ndC_get s.nl k hkl).1
          have m1 := hrN.cells rfl _ _ (ndC_get s.nl k hkl).2.1
          have m2 := hrN.cells rfl _ _ (ndC_get s.nl k hkl).2.2.1
          have m3 := hrN.cells rfl _ _ (ndC_get s.nl k hkl).2.2.2
          simp only [Nat.zero_add] at m0 m1 m2 m3
          have y0 := hoN.frozenAt (k * 4)
          have y1 := hoN.frozenAt (k * 4 + 1)
          have y2 := hoN.frozenAt (k * 4 + 2)
          have y3 := hoN.frozenAt (k * 4 + 3)
          have q4 : wc.cell? ⟨g, 4, none⟩ = some (.int .i64 k) := bx5.cell 4 rfl
          have r6 : wc.cell? ⟨p, 6, none⟩ = some (.slice (some ⟨gN, 0, none⟩) s.nl.length s.nc) := hp5.cell 6 rfl
          have n0 : wc.cell? ⟨gn, 0, none⟩ = some (.int .i64 a) := bn5.cell 0 rfl
          have n1 : wc.cell? ⟨gn, 1, none⟩ = some (.int .i64 b) := bn5.cell 1 rfl
          have n2 : wc.cell? ⟨gn, 2, none⟩ = some (.int .i64 cc) := bn5.cell 2 rfl
          have n3 : wc.cell? ⟨gn, 3, none⟩ = some (.slice A' n' c') := bn5.cell 3 rfl
          have HP := Lib.hid (fun a b c A n cc => NodesTurned.put (s := s) HN.out hoN hc6 k hkl a b c A n cc)
          clear hrN hoN bx4 hp4 bn4 hcX bx5 hp5 bn5
          go_upto_region 24 with fail
          go_region
          all_goals
            go_wp2_with fail
            go_ret
            exact ⟨⟨_, rfl⟩, (HP.out _ _ _ _ _ _).drew⟩
end Go.Proofs.YtngfimjbgopgjaaGreatDoor
