/- StFold, StPen, in one text (merge.py). -/
import Derived.Test.YtngfimjbgopgjaaGreatDoorStApp
import Derived.Test.YtngfimjbgopgjaaGreatDoorPenAll
/- Contract of cutoverref11.Fold (gen_fold.py): a list of events is a line, or refused. -/
namespace Go.Proofs.YtngfimjbgopgjaaGreatDoor
open Go.RowKit
set_option linter.unusedVariables false

/-- What Fold gives. -/
def Folded (l : List EvF) (w : World) (e : Ending) (w' : World) : Prop :=
  ∃ (s : StV) (k : Int), e = .returned (.tuple #[s.val, .int .i64 k]) ∧ Chg (fun _ => False) w w' ∧
    (k = 0 → StOk w' s ∧ TlOk s.tl ∧ s.sl.length ≤ l.length ∧ Chain (0, 0, 0) l (s.id, s.ver, s.tm))
theorem Chg.undrew {S : Nat → Prop} {a b : World} (h : Chg S a.drew b) : Chg S a b := ⟨h.os, h.tape, h.output, h.size, h.block⟩
theorem StOk.no (u : World) : StOk u noSt :=
  ⟨RdDf.nil _ _, Rd.nil _ _, Rd.nil _ _, Rd.nil _ _, rfl, Nat.zero_le _, (fun d hd => by cases hd), Nat.zero_le _, Nat.zero_le _⟩
/-- The round's state: of the events so far. -/
structure FoldAt (l : List EvF) (g gS : Nat) (j : Nat) (s : StV) (w' : World) : Prop where
  box : BoxAt w' gS 78 #[.int .i64 s.id, .int .i64 s.ver, .int .i64 s.tm, .int .i64 s.cl, .bool s.ca, .slice s.D s.dl.length s.dc, .slice s.N s.nl.length s.nc, .slice s.T s.tl.length s.tc, .slice s.S s.sl.length s.sc]
  ok : ∀ u, Chg (fun x => x = g ∨ x = gS) w' u → StOk u s
  t8 : TlOk s.tl
  sj : s.sl.length ≤ j
  ch : Chain (0, 0, 0) (l.take j) (s.id, s.ver, s.tm)
  jl : j ≤ l.length

set_option maxHeartbeats 8000000 in
set_option maxRecDepth 20000 in
theorem fold_any (A : Option Addr) (c : Nat) (l : List EvF) (w : World) (h : RdEv w A l) (hl : l.length ≤ 1000) :
    Calls Tryz.prog 77 #[.slice A l.length c] w (Folded l w) := by
  obtain ⟨n, hn⟩ : ∃ n, n = l.length := ⟨_, rfl⟩
  have HN := Lib.hid hn
  rw [← hn] at hl
  rw [← hn]
  have HR := Lib.hid h
  clear h hn
  obtain ⟨w1, hw1⟩ : ∃ w1, w1 = w.alloc (.cells #[.int .i64 0, .int .i64 0, .int .i64 0, .int .i64 0, .bool false, .slice none 0 0, .slice none 0 0, .slice none 0 0, .slice none 0 0] 78) := ⟨_, rfl⟩
  obtain ⟨w2, hw2⟩ : ∃ w2, w2 = w1.alloc (.cells #[.int .i64 0, .int .i64 0, .int .i64 0, .int .i64 0, .bool false, .slice none 0 0, .slice none 0 0, .slice none 0 0, .slice none 0 0] 78) := ⟨_, rfl⟩
  obtain ⟨g, hg⟩ : ∃ g, g = w.heap.size := ⟨_, rfl⟩
  have z1 : w1.heap.size = g + 1 := by rw [hw1, hg]; simp
  have z2 : w2.heap.size = g + 2 := by rw [hw2]; simp [z1]
  have c1 : Chg (fun _ => False) w w1 := by rw [hw1]; exact (Chg.refl _ _).alloc _
  have c2 : Chg (fun _ => False) w1 w2 := by rw [hw2]; exact (Chg.refl _ _).alloc _
  have bZ : BoxAt w2 g 78 #[.int .i64 0, .int .i64 0, .int .i64 0, .int .i64 0, .bool false, .slice none 0 0, .slice none 0 0, .slice none 0 0, .slice none 0 0] := by
    have b := BoxAt.new w 78 #[.int .i64 0, .int .i64 0, .int .i64 0, .int .i64 0, .bool false, .slice none 0 0, .slice none 0 0, .slice none 0 0, .slice none 0 0]
    rw [← hw1, ← hg] at b
    exact b.keep c2 (fun h => h)
  have bS : BoxAt w2 (g + 1) 78 #[.int .i64 0, .int .i64 0, .int .i64 0, .int .i64 0, .bool false, .slice none 0 0, .slice none 0 0, .slice none 0 0, .slice none 0 0] := by
    have b := BoxAt.new w1 78 #[.int .i64 0, .int .i64 0, .int .i64 0, .int .i64 0, .bool false, .slice none 0 0, .slice none 0 0, .slice none 0 0, .slice none 0 0]
    rwa [← hw2, z1] at b
  have hc0 : Chg (fun _ => False) w w2 := c1.trans c2 (fun x hx => hx.elim)
  clear z1 c1 c2
  go_enter Tryz.func77, Tryz.ntmps77
  go_upto_region 2 with fail
  rw [← hg, ← hw1, ← hw2]
  clear hw1 hw2
  obtain ⟨gS, hgS⟩ : ∃ gS, gS = g + 1 := ⟨_, rfl⟩
  rw [← hgS] at bS ⊢
  have n1 : g ≠ gS := by omega
  have n2 : gS ≠ g := by omega
  have hzl : ∀ x, x = g → False ∨ w.heap.size ≤ x := fun x hx => .inr (by omega)
  have hsl : ∀ x, x = gS → False ∨ w.heap.size ≤ x := fun x hx => .inr (by omega)
  have HGS := Lib.hid hgS
  have HG := Lib.hid hg
  clear hgS hg
  go_wp2_with fail
  go_loopw [5, 6] (fun i e w' => ∃ (j : Nat) (s : StV), i = .int .i64 j ∧ FoldAt l g gS j s w' ∧ BoxAt w' g 78 #[.int .i64 0, .int .i64 0, .int .i64 0, .int .i64 0, .bool false, .slice none 0 0, .slice none 0 0, .slice none 0 0, .slice none 0 0] ∧ Chg (fun _ => False) w w') (fun i _ _ => n - (intOf i).toNat)
  case atStart => exact ⟨0, noSt, rfl, ⟨bS, fun u _ => StOk.no u, ⟨Nat.zero_le _, fun t ht => by cases ht⟩, Nat.zero_le _, rfl, Nat.zero_le _⟩, bZ, hc0⟩
  case round =>
    clear bZ bS hc0
    obtain ⟨j, s, rfl, hfa, bZ, hc⟩ := hrel
    have HFA := Lib.hid hfa
    have hjl := hfa.jl
    have bS := hfa.box
    rw [← HN.out] at hjl
    clear hfa
    by_cases hjn : j < n
    · have j0 : (0 : Int) ≤ (j : Int) := by omega
      have j1 : (j : Int) < (n : Int) := by omega
      go_upto_region 6 with fail
      go_cut [6] from 13 to 21 (fun v w' => ∃ (k : Int) (s' : StV), v = .int .i64 k ∧ BoxAt w' gS 78 #[.int .i64 s'.id, .int .i64 s'.ver, .int .i64 s'.tm, .int .i64 s'.cl, .bool s'.ca, .slice s'.D s'.dl.length s'.dc, .slice s'.N s'.nl.length s'.nc, .slice s'.T s'.tl.length s'.tc, .slice s'.S s'.sl.length s'.sc] ∧ (k = 0 → FoldAt l g gS (j + 1) s' w') ∧ Chg (· = gS) wr w')
      case first =>
        have hjl2 : j < l.length := by rw [← HN.out]; exact hjn
        have hre := HR.out.still hc
        obtain ⟨b, o, hA, _⟩ := hre.rd.at_ (k := 0) (by rw [eoC_len]; omega)
        obtain ⟨p0, p1, p2, p3, p4, p5, p6, p7, p8⟩ := eoC_get l j hjl2
        have hfs := fun (u : World) (hu : Chg (fun x => x = g ∨ x = gS) wr u) => (HR.out.still (hc.trans hu (fun x hx => hx.elim (hzl x) (hsl x)))).ev l[j] (List.getElem_mem _)
        obtain ⟨f, hf⟩ : ∃ f, f = l[j] := ⟨_, rfl⟩
        have HFJ := Lib.hid hf
        rw [← hf] at p0 p1 p2 p3 p4 p5 p6 p7 p8 hfs
        clear hf
        have q0 := hre.rd.cells hA _ _ p0
        have q1 := hre.rd.cells hA _ _ p1
        have q2 := hre.rd.cells hA _ _ p2
        have q3 := hre.rd.cells hA _ _ p3
        have q4 := hre.rd.cells hA _ _ p4
        have q5 := hre.rd.cells hA _ _ p5
        have q6 := hre.rd.cells hA _ _ p6
        have q7 := hre.rd.cells hA _ _ p7
        have q8 := hre.rd.cells hA _ _ p8
        rw [← Nat.add_assoc] at q1 q2 q3 q4 q5 q6 q7 q8
        clear p0 p1 p2 p3 p4 p5 p6 p7 p8 hre
        have hlen := HFA.out.ch.len
        have h200 := HFA.out.ch.le200 (by decide)
        simp only [List.length_take] at hlen h200
        have hid0 : 0 ≤ s.id := by omega
        have hsj := HFA.out.sj
        have hap := apply_any (fun x => x = g ∨ x = gS) s f wr.drew (fun x hx => by rcases hx with hx | hx; rw [hx]; exact bZ.lt; rw [hx]; exact bS.lt) (fun u hu => HFA.out.ok u hu.undrew) (fun u hu => hfs u hu.undrew) HFA.out.t8 (by omega) hid0 h200
        have hstep : f.right = true → f.id = s.id + 1 → s.ver ≤ f.ver → s.tm ≤ f.tm → Chain (0, 0, 0) (l.take (j + 1)) (f.id, f.ver, f.tm) := fun a1 a2 a3 a4 => by
          rw [List.take_add_one, List.getElem?_eq_getElem hjl2, ← HFJ.out]
          exact HFA.out.ch.app ⟨⟨a1, a2, a3, a4⟩, rfl⟩
        have HSTEP := Lib.hid hstep
        have HSJ := Lib.hid hsj
        unfold StV.val StV.row EvF.val EvF.row at hap
        have HAP := Lib.hid hap
        have HBS := Lib.hid bS
        subst hA
        have r0 : wr.cell? ⟨gS, 0, none⟩ = some (.int .i64 s.id) := bS.cell 0 rfl
        have r1 : wr.cell? ⟨gS, 1, none⟩ = some (.int .i64 s.ver) := bS.cell 1 rfl
        have r2 : wr.cell? ⟨gS, 2, none⟩ = some (.int .i64 s.tm) := bS.cell 2 rfl
        have r3 : wr.cell? ⟨gS, 3, none⟩ = some (.int .i64 s.cl) := bS.cell 3 rfl
        have r4 : wr.cell? ⟨gS, 4, none⟩ = some (.bool s.ca) := bS.cell 4 rfl
        have r5 : wr.cell? ⟨gS, 5, none⟩ = some (.slice s.D s.dl.length s.dc) := bS.cell 5 rfl
        have r6 : wr.cell? ⟨gS, 6, none⟩ = some (.slice s.N s.nl.length s.nc) := bS.cell 6 rfl
        have r7 : wr.cell? ⟨gS, 7, none⟩ = some (.slice s.T s.tl.length s.tc) := bS.cell 7 rfl
        have r8 : wr.cell? ⟨gS, 8, none⟩ = some (.slice s.S s.sl.length s.sc) := bS.cell 8 rfl
        clear hfs hlen h200 hid0 hsj hap hstep bS bZ
        go_region_law (first
          | (go_simp; go_at_call 92; (with_reducible refine (HAP.out).mono ?_); rintro e w2 ⟨⟨xid, xver, xtm, xcl, xca, xD, xdl, xdc, xN, xnl, xnc, xT, xtl, xtc, xS, xsl, xsc⟩, k, he, hc2, hok⟩; simp only [StV.val, StV.row] at he; subst he; have HOK := Lib.hid hok; clear hok; have b2 := HBS.out.keep (Chg.undrew hc2) (fun h => h); have t0 : w2.cell? ⟨gS, 0, none⟩ = some (.int .i64 s.id) := b2.cell 0 rfl; have z0 := b2.fz 0; have t1 : w2.cell? ⟨gS, 1, none⟩ = some (.int .i64 s.ver) := b2.cell 1 rfl; have z1 := b2.fz 1; have t2 : w2.cell? ⟨gS, 2, none⟩ = some (.int .i64 s.tm) := b2.cell 2 rfl; have z2 := b2.fz 2; have t3 : w2.cell? ⟨gS, 3, none⟩ = some (.int .i64 s.cl) := b2.cell 3 rfl; have z3 := b2.fz 3; have t4 : w2.cell? ⟨gS, 4, none⟩ = some (.bool s.ca) := b2.cell 4 rfl; have z4 := b2.fz 4; have t5 : w2.cell? ⟨gS, 5, none⟩ = some (.slice s.D s.dl.length s.dc) := b2.cell 5 rfl; have z5 := b2.fz 5; have t6 : w2.cell? ⟨gS, 6, none⟩ = some (.slice s.N s.nl.length s.nc) := b2.cell 6 rfl; have z6 := b2.fz 6; have t7 : w2.cell? ⟨gS, 7, none⟩ = some (.slice s.T s.tl.length s.tc) := b2.cell 7 rfl; have z7 := b2.fz 7; have t8 : w2.cell? ⟨gS, 8, none⟩ = some (.slice s.S s.sl.length s.sc) := b2.cell 8 rfl; have z8 := b2.fz 8)
          | fail)
        all_goals
          go_wp2_with fail
          go_meet
          have hcS := chg_set9 w2 gS (.int .i64 xid) (.int .i64 xver) (.int .i64 xtm) (.int .i64 xcl) (.bool xca) (.slice xD xdl.length xdc) (.slice xN xnl.length xnc) (.slice xT xtl.length xtc) (.slice xS xsl.length xsc)
          have hcT : Chg (· = gS) wr _ := (hc2.undrew.mono (fun x h => h.elim)).trans hcS (fun x hx => .inl hx)
          refine ⟨k, ⟨xid, xver, xtm, xcl, xca, xD, xdl, xdc, xN, xnl, xnc, xT, xtl, xtc, xS, xsl, xsc⟩, rfl, BoxAt.set9 b2 _ _ _ _ _ _ _ _ _, fun hk => ?_, hcT⟩
          obtain ⟨g1, g2, g3, g4, g5, g6, g7, g8, g9, g10⟩ := HOK.out hk
          have hch := HSTEP.out g4 g5 g6 g7
          rw [← g8, ← g9, ← g10] at hch
          exact ⟨BoxAt.set9 b2 _ _ _ _ _ _ _ _ _, fun u hu => g1 u ((hcS.mono (T := fun x => x = g ∨ x = gS) (fun x hx => .inl (.inr hx))).trans hu (fun x hx => .inl hx)), g2, Nat.le_trans g3 (Nat.succ_le_succ HSJ.out), hch, hjl2⟩
      case rest =>
        obtain ⟨k, s', rfl, bS2, hok, hcX⟩ := hcut
        have bZ2 := bZ.keep hcX n1
        have hc2 := hc.trans hcX hsl
        clear bS bZ hc hcX
        by_cases hk : k = 0
        · subst hk
          have HOK := Lib.hid (hok rfl)
          clear hok
          go_wp2_with fail
          go_roundw
          case rel => exact ⟨j + 1, s', by go_num, HOK.out, bZ2, hc2⟩
          case measure => simp [intOf]; omega
        · have f1 : (k != 0) = true := by simpa using hk
          have f2 : decide (k = 0) = false := by simpa using hk
          have HKK := Lib.hid hk
          clear hk hok
          have t0 : wc.cell? ⟨g, 0, none⟩ = some (.int .i64 0) := bZ2.cell 0 rfl
          have t1 : wc.cell? ⟨g, 1, none⟩ = some (.int .i64 0) := bZ2.cell 1 rfl
          have t2 : wc.cell? ⟨g, 2, none⟩ = some (.int .i64 0) := bZ2.cell 2 rfl
          have t3 : wc.cell? ⟨g, 3, none⟩ = some (.int .i64 0) := bZ2.cell 3 rfl
          have t4 : wc.cell? ⟨g, 4, none⟩ = some (.bool false) := bZ2.cell 4 rfl
          have t5 : wc.cell? ⟨g, 5, none⟩ = some (.slice none 0 0) := bZ2.cell 5 rfl
          have t6 : wc.cell? ⟨g, 6, none⟩ = some (.slice none 0 0) := bZ2.cell 6 rfl
          have t7 : wc.cell? ⟨g, 7, none⟩ = some (.slice none 0 0) := bZ2.cell 7 rfl
          have t8 : wc.cell? ⟨g, 8, none⟩ = some (.slice none 0 0) := bZ2.cell 8 rfl
          have z0 := bZ2.fz 0
          have z1 := bZ2.fz 1
          have z2 := bZ2.fz 2
          have z3 := bZ2.fz 3
          have z4 := bZ2.fz 4
          have z5 := bZ2.fz 5
          have z6 := bZ2.fz 6
          have z7 := bZ2.fz 7
          have z8 := bZ2.fz 8
          go_wp2_with fail
          (try simp only [Exit.inBlock, Exit.then])
          refine bodyPost_ret (results_cell_row_tmp rfl _ _ g _ _ _ _ rfl (BoxAt.set9 bZ2 _ _ _ _ _ _ _ _ _) Tryz.underlying78 rfl stSize) rfl ?_
          exact ⟨noSt, k, rfl, hc2.trans (chg_set9 _ _ _ _ _ _ _ _ _ _ _) hzl, fun h => absurd h HKK.out⟩
    · have j1 : ¬ (j : Int) < (n : Int) := by omega
      have hje : j = l.length := by rw [← HN.out]; omega
      have hch := HFA.out.ch
      rw [hje, List.take_length] at hch
      have hsj := HFA.out.sj
      rw [hje] at hsj
      have HCH := Lib.hid hch
      have HSJ := Lib.hid hsj
      clear hch hsj hje
      have r0 : wr.cell? ⟨gS, 0, none⟩ = some (.int .i64 s.id) := bS.cell 0 rfl
      have r1 : wr.cell? ⟨gS, 1, none⟩ = some (.int .i64 s.ver) := bS.cell 1 rfl
      have r2 : wr.cell? ⟨gS, 2, none⟩ = some (.int .i64 s.tm) := bS.cell 2 rfl
      have r3 : wr.cell? ⟨gS, 3, none⟩ = some (.int .i64 s.cl) := bS.cell 3 rfl
      have r4 : wr.cell? ⟨gS, 4, none⟩ = some (.bool s.ca) := bS.cell 4 rfl
      have r5 : wr.cell? ⟨gS, 5, none⟩ = some (.slice s.D s.dl.length s.dc) := bS.cell 5 rfl
      have r6 : wr.cell? ⟨gS, 6, none⟩ = some (.slice s.N s.nl.length s.nc) := bS.cell 6 rfl
      have r7 : wr.cell? ⟨gS, 7, none⟩ = some (.slice s.T s.tl.length s.tc) := bS.cell 7 rfl
      have r8 : wr.cell? ⟨gS, 8, none⟩ = some (.slice s.S s.sl.length s.sc) := bS.cell 8 rfl
      have t0 : wr.cell? ⟨g, 0, none⟩ = some (.int .i64 0) := bZ.cell 0 rfl
      have t1 : wr.cell? ⟨g, 1, none⟩ = some (.int .i64 0) := bZ.cell 1 rfl
      have t2 : wr.cell? ⟨g, 2, none⟩ = some (.int .i64 0) := bZ.cell 2 rfl
      have t3 : wr.cell? ⟨g, 3, none⟩ = some (.int .i64 0) := bZ.cell 3 rfl
      have t4 : wr.cell? ⟨g, 4, none⟩ = some (.bool false) := bZ.cell 4 rfl
      have t5 : wr.cell? ⟨g, 5, none⟩ = some (.slice none 0 0) := bZ.cell 5 rfl
      have t6 : wr.cell? ⟨g, 6, none⟩ = some (.slice none 0 0) := bZ.cell 6 rfl
      have t7 : wr.cell? ⟨g, 7, none⟩ = some (.slice none 0 0) := bZ.cell 7 rfl
      have t8 : wr.cell? ⟨g, 8, none⟩ = some (.slice none 0 0) := bZ.cell 8 rfl
      have z0 := bZ.fz 0
      have z1 := bZ.fz 1
      have z2 := bZ.fz 2
      have z3 := bZ.fz 3
      have z4 := bZ.fz 4
      have z5 := bZ.fz 5
      have z6 := bZ.fz 6
      have z7 := bZ.fz 7
      have z8 := bZ.fz 8
      go_wp2_with fail
      (try simp only [Exit.inBlock, Exit.then])
      refine bodyPost_ret (results_cell_row_tmp rfl _ _ g _ _ _ _ rfl (BoxAt.set9 bZ _ _ _ _ _ _ _ _ _) Tryz.underlying78 rfl stSize) rfl ?_
      have hcZ := chg_set9 wr g (.int .i64 s.id) (.int .i64 s.ver) (.int .i64 s.tm) (.int .i64 s.cl) (.bool s.ca) (.slice s.D s.dl.length s.dc) (.slice s.N s.nl.length s.nc) (.slice s.T s.tl.length s.tc) (.slice s.S s.sl.length s.sc)
      exact ⟨s, 0, rfl, hc.trans hcZ hzl, fun _ => ⟨HFA.out.ok _ (hcZ.mono (fun x hx => .inl (.inl hx))), HFA.out.t8, HSJ.out, HCH.out⟩⟩
end Go.Proofs.YtngfimjbgopgjaaGreatDoor

/- Pens between calls; contract of NewPen (gen_npen.py). -/
namespace Go.Proofs.YtngfimjbgopgjaaGreatDoor
open Go.RowKit
set_option linter.unusedVariables false

/-- What an event holds beside numbers and its name lies in blocks behind block p. -/
structure Yng (p : Nat) (f : EvF) : Prop where
  a : f.bs ≠ [] → ∀ x, In f.A x → p < x
  d : f.dl ≠ [] → ∀ x, In f.D x → p < x
  n : ∀ d ∈ f.dl, d.ns ≠ [] → ∀ x, In d.A x → p < x
theorem Yng.bare (p : Nat) (id ver tm ty node m : Int) (nm : ByteArray) : Yng p ⟨id, ver, tm, ty, node, m, nm, none, 0, [], none, 0, []⟩ :=
  ⟨fun h => absurd rfl h, fun h => absurd rfl h, fun d hd => by cases hd⟩
/-- A Pen in box p: its state, what it wrote: a line from b on. -/
structure PenS (w : World) (p : Nat) (b : Int × Int × Int) (out : List EvF) (s : StV) (v n : Int) : Prop where
  ex : ∃ (O : Option Addr) (oc : Nat), BoxAt w p 80 (penRow s v n O out.length oc) ∧ ∀ u, Chg (· = p) w u → RdEv u O out
  st : ∀ u, Chg (· = p) w u → StOk u s
  id0 : 0 ≤ s.id
  id2 : s.id ≤ 200
  tl : TlOk s.tl
  sl : (s.sl.length : Int) ≤ s.id
  b0 : 0 ≤ b.1
  ch : Chain b out (s.id, s.ver, s.tm)
  yo : ∀ f ∈ out, Yng p f
/-- A Pen with some state. -/
def PenAt (w : World) (p : Nat) (b : Int × Int × Int) : Prop := ∃ (out : List EvF) (s : StV) (v n : Int), PenS w p b out s v n
theorem PenS.keep {w w' : World} {p : Nat} {b : Int × Int × Int} {out : List EvF} {s : StV} {v n : Int} (h : PenS w p b out s v n) (hc : Chg (fun _ => False) w w') : PenS w' p b out s v n := by
  obtain ⟨O, oc, h1, h2⟩ := h.ex
  exact ⟨⟨O, oc, h1.keep hc (fun h => h), fun u hu => h2 u ((hc.mono (fun x h => h.elim)).trans hu (fun x hx => .inl hx))⟩, fun u hu => h.st u ((hc.mono (fun x h => h.elim)).trans hu (fun x hx => .inl hx)), h.id0, h.id2, h.tl, h.sl, h.b0, h.ch, h.yo⟩
theorem PenS.lt {w : World} {p : Nat} {b : Int × Int × Int} {out : List EvF} {s : StV} {v n : Int} (h : PenS w p b out s v n) : p < w.heap.size := by
  obtain ⟨O, oc, h1, h2⟩ := h.ex
  exact h1.lt
/-- What NewPen gives: a Pen behind the line of events. -/
def NewPenGave (l : List EvF) (w : World) (e : Ending) (w' : World) : Prop :=
  ∃ (P : Option Addr) (k : Int), e = .returned (.tuple #[.pointer P, .int .i64 k]) ∧ Chg (fun _ => False) w w' ∧ (k = 0 → ∃ (p : Nat) (b : Int × Int × Int), P = some ⟨p, 0, none⟩ ∧ w.heap.size ≤ p ∧ PenAt w' p b ∧ Chain (0, 0, 0) l b)

set_option maxHeartbeats 4000000 in
set_option maxRecDepth 20000 in
theorem newPen_any (A : Option Addr) (c : Nat) (l : List EvF) (v n : Int) (w : World) (h : RdEv w A l) (hl : l.length ≤ 1000) :
    Calls Tryz.prog 42 #[.slice A l.length c, .int .i64 v, .int .i64 n] w (NewPenGave l w) := by
  have hfd := fold_any A c l w h hl
  have HR := Lib.hid h
  have HFD := Lib.hid hfd
  obtain ⟨ln, hln⟩ : ∃ ln, ln = l.length := ⟨_, rfl⟩
  rw [← hln] at hfd ⊢
  have HLN := Lib.hid hln
  clear h HFD hln
  go_enter Tryz.func42, Tryz.ntmps42
  go_upto_region 1 with fail
  go_cut [8, 9] from 10 to 14 (fun sp kv w' => ∃ (s : StV) (k : Int) (g : Nat), sp = .pointer (some ⟨g, 0, none⟩) ∧ kv = .int .i64 k ∧ BoxAt w' g 78 #[.int .i64 s.id, .int .i64 s.ver, .int .i64 s.tm, .int .i64 s.cl, .bool s.ca, .slice s.D s.dl.length s.dc, .slice s.N s.nl.length s.nc, .slice s.T s.tl.length s.tc, .slice s.S s.sl.length s.sc] ∧ Chg (fun _ => False) w w' ∧ (k = 0 → StOk w' s ∧ TlOk s.tl ∧ s.sl.length ≤ l.length ∧ Chain (0, 0, 0) l (s.id, s.ver, s.tm)))
  case first =>
    go_wp2_with (go_at_call 77; go_must (refine hfd.mono ?_; rintro e w2 ⟨⟨xid, xver, xtm, xcl, xca, xD, xdl, xdc, xN, xnl, xnc, xT, xtl, xtc, xS, xsl, xsc⟩, k, he, hc2, hok⟩; simp only [StV.val, StV.row] at he; subst he; have HOK := Lib.hid hok; clear hok))
    go_meet
    refine ⟨⟨xid, xver, xtm, xcl, xca, xD, xdl, xdc, xN, xnl, xnc, xT, xtl, xtc, xS, xsl, xsc⟩, k, w2.heap.size, rfl, rfl, BoxAt.new w2 _ _, hc2.alloc _, fun hk => ?_⟩
    obtain ⟨g1, g2, g3, g4⟩ := HOK.out hk
    exact ⟨g1.still ((Chg.refl _ _).alloc _), g2, g3, g4⟩
  obtain ⟨s, k, g, rfl, rfl, bS, hc, hok⟩ := hcut
  have HOK := Lib.hid hok
  clear hok hfd
  go_upto_region 2 with fail
  go_cut [29] from 10 to 28 (fun b w' => (∃ b' : Bool, b = .bool b' ∧ (b' = false → k = 0)) ∧ Chg (fun _ => False) wc w')
  case first =>
    by_cases hk : k = 0
    rotate_left
    · have f1 : (k != 0) = true := by simpa using hk
      have f2 : decide (k = 0) = false := by simpa using hk
      have HKK := Lib.hid hk
      clear hk
      go_wp2_with fail
      go_meet
      exact ⟨⟨_, rfl, fun h => (by cases h)⟩, Chg.refl _ _⟩
    · have f1 : (k != 0) = false := by simpa using hk
      have f2 : decide (k = 0) = true := by simpa using hk
      have HKK := Lib.hid hk
      clear hk
      have hV := fun w' => rRight_any v w'
      go_wp2_with (go_at_call 60; go_must (refine (hV _).mono ?_; rintro e w' ⟨rfl, rfl⟩))
      all_goals
        go_meet
        exact ⟨⟨_, rfl, fun _ => HKK.out⟩, Chg.refl _ _⟩
  obtain ⟨⟨b, rfl, hb⟩, hcX⟩ := hcut
  have bS2 := bS.keep hcX (fun h => h)
  have hc2 := hc.trans hcX (fun x hx => hx.elim)
  cases b
  rotate_left
  · clear hb
    go_wp2_with fail
    go_ret2
    exact ⟨none, 1, rfl, hc2, fun h => absurd h (by decide)⟩
  have HK0 := Lib.hid (hb rfl)
  clear hb
  have r0 : wc.cell? ⟨g, 0, none⟩ = some (.int .i64 s.id) := bS2.cell 0 rfl
  have r1 : wc.cell? ⟨g, 1, none⟩ = some (.int .i64 s.ver) := bS2.cell 1 rfl
  have r2 : wc.cell? ⟨g, 2, none⟩ = some (.int .i64 s.tm) := bS2.cell 2 rfl
  have r3 : wc.cell? ⟨g, 3, none⟩ = some (.int .i64 s.cl) := bS2.cell 3 rfl
  have r4 : wc.cell? ⟨g, 4, none⟩ = some (.bool s.ca) := bS2.cell 4 rfl
  have r5 : wc.cell? ⟨g, 5, none⟩ = some (.slice s.D s.dl.length s.dc) := bS2.cell 5 rfl
  have r6 : wc.cell? ⟨g, 6, none⟩ = some (.slice s.N s.nl.length s.nc) := bS2.cell 6 rfl
  have r7 : wc.cell? ⟨g, 7, none⟩ = some (.slice s.T s.tl.length s.tc) := bS2.cell 7 rfl
  have r8 : wc.cell? ⟨g, 8, none⟩ = some (.slice s.S s.sl.length s.sc) := bS2.cell 8 rfl
  by_cases hv : v < s.ver
  · go_wp2_with fail
    go_ret2
    exact ⟨none, 4, rfl, hc2, fun h => absurd h (by decide)⟩
  · go_wp2_with fail
    go_ret2
    have hca := hc2.alloc (.cells (penRow s v n none 0 0) 80)
    have hp := HK0.out
    obtain ⟨g1, g2, g3, g4⟩ := HOK.out hp
    have hl1 := g4.len
    have hl2 := g4.le200 (by decide)
    simp only at hl1 hl2
    refine ⟨some ⟨wc.heap.size, 0, none⟩, 0, rfl, hca, fun _ => ⟨wc.heap.size, (s.id, s.ver, s.tm), rfl, hc2.size, ⟨[], s, v, n, ⟨⟨none, 0, BoxAt.new wc _ _, fun u _ => RdEv.nil _ _⟩, fun u hu => ?_, by omega, hl2, g2, by omega, by simp only; omega, rfl, fun f hf => by cases hf⟩⟩, g4⟩⟩
    exact (g1.still hcX).still (((Chg.refl (fun _ => False) _).alloc _).trans hu (fun x hx => .inr (Nat.le_of_eq hx.symm)))
end Go.Proofs.YtngfimjbgopgjaaGreatDoor
