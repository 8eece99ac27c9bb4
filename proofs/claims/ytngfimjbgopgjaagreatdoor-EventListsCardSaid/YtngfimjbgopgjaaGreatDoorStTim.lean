/- Contract of cutoverref11.applyTimer: the state's timers are turned, or not. -/
import Derived.Test.YtngfimjbgopgjaaGreatDoorStNode
namespace Go.Proofs.YtngfimjbgopgjaaGreatDoor
open Go.RowKit
set_option linter.unusedVariables false

theorem tmInfo : (Tryz.prog.info? 129).map (fun i => (i.zero, i.size, i.bytes)) = some (some (.agg #[.string ByteArray.empty, .int .i64 0, .bool false]), 3, 32) := by kernel_rfl
theorem sgInfo : (Tryz.prog.info? 133).map (fun i => (i.zero, i.size, i.bytes)) = some (some (.agg #[.string ByteArray.empty, .int .i64 0, .slice none 0 0]), 3, 48) := by kernel_rfl
theorem ndInfo : (Tryz.prog.info? 114).map (fun i => (i.zero, i.size, i.bytes)) = some (some (.agg #[.int .i64 0, .int .i64 0, .int .i64 0, .slice none 0 0]), 4, 48) := by kernel_rfl
theorem tmC_app (l m : List Tm) : tmC (l ++ m) = tmC l ++ tmC m := by
  induction l with
  | nil => rfl
  | cons x l ih => simp [tmC, ih]
theorem sgC_app (l m : List Sg) : sgC (l ++ m) = sgC l ++ sgC m := by
  induction l with
  | nil => rfl
  | cons x l ih => simp [sgC, ih]
theorem tmC_one (l : List Tm) : ∀ u ∈ tmC l, u.oneCell' = true := by
  induction l with
  | nil => intro u hu; cases hu
  | cons x l ih =>
    intro u hu
    simp only [tmC, List.mem_cons] at hu
    rcases hu with rfl | rfl | rfl | hu
    all_goals first | rfl | exact ih u hu
theorem sgC_one (l : List Sg) : ∀ u ∈ sgC l, u.oneCell' = true := by
  induction l with
  | nil => intro u hu; cases hu
  | cons x l ih =>
    intro u hu
    simp only [sgC, List.mem_cons] at hu
    rcases hu with rfl | rfl | rfl | hu
    all_goals first | rfl | exact ih u hu
theorem ndC_one (l : List Nd) : ∀ u ∈ ndC l, u.oneCell' = true := by
  induction l with
  | nil => intro u hu; cases hu
  | cons x l ih =>
    intro u hu
    simp only [ndC, List.mem_cons] at hu
    rcases hu with rfl | rfl | rfl | rfl | hu
    all_goals first | rfl | exact ih u hu
theorem tmC_set2 (b : Bool) : ∀ (l : List Tm) (k : Nat) (h : k < l.length), (tmC l).set (k * 3 + 2) (.bool b) = tmC (l.set k ⟨l[k].nm, l[k].du, b⟩)
  | x :: l, 0, _ => rfl
  | x :: l, k + 1, h => by
    have := tmC_set2 b l k (by simpa using h)
    rw [show (k + 1) * 3 + 2 = k * 3 + 2 + 1 + 1 + 1 by omega]
    simp only [tmC, List.set_cons_succ, this, List.getElem_cons_succ]
/-- Few timers, their names short. -/
def TlOk (tl : List Tm) : Prop := tl.length ≤ 8 ∧ ∀ t ∈ tl, t.nm.size ≤ 1048576
/-- Timers of the state in box p turned, or not; nothing else. -/
def TimersTurned (s : StV) (p : Nat) (w w' : World) : Prop := ∃ (T : Option Addr) (tl : List Tm) (tc : Nat), TlOk tl ∧ BoxAt w' p 78 #[.int .i64 s.id, .int .i64 s.ver, .int .i64 s.tm, .int .i64 s.cl, .bool s.ca, .slice s.D s.dl.length s.dc, .slice s.N s.nl.length s.nc, .slice T tl.length tc, .slice s.S s.sl.length s.sc] ∧ Rd w' T (tmC tl) ∧ ((T = s.T ∧ tl = s.tl) ∨ ∀ x, In T x → w.heap.size ≤ x) ∧ Chg (· = p) w w'
theorem TimersTurned.still {s : StV} {p : Nat} {w w' : World} (hp : BoxAt w p 78 s.row) (h : Rd w s.T (tmC s.tl)) (h8 : TlOk s.tl) (hc : Chg (fun _ => False) w w') : TimersTurned s p w w' :=
  ⟨s.T, s.tl, s.tc, h8, hp.keep hc (fun h => h), h.keep hc (fun _ _ h => h), .inl ⟨rfl, rfl⟩, hc.mono (fun x h => h.elim)⟩
theorem TimersTurned.put {s : StV} {p : Nat} {w w7 : World} {T : Option Addr} {tl : List Tm} {n tc : Nat} (h : BoxAt w7 p 78 #[.int .i64 s.id, .int .i64 s.ver, .int .i64 s.tm, .int .i64 s.cl, .bool s.ca, .slice s.D s.dl.length s.dc, .slice s.N s.nl.length s.nc, .slice s.T s.tl.length s.tc, .slice s.S s.sl.length s.sc]) (hc : Chg (fun _ => False) w w7) (hT : Rd w7 T (tmC tl)) (hT2 : ∀ x, In T x → w.heap.size ≤ x ∧ x ≠ p) (hn : tl.length = n) (h8 : TlOk tl) :
    TimersTurned s p w (w7.setCell ⟨p, 7, none⟩ (.slice T n tc)) := by
  subst hn
  have hS := chg_put w7 p 7 (.slice T tl.length tc)
  exact ⟨T, tl, tc, h8, by simpa using h.set 7 (.slice T tl.length tc), hT.keep hS (fun x hx e => (hT2 x hx).2 e), .inr (fun x hx => (hT2 x hx).1), (hc.mono (fun x h => h.elim)).trans hS (fun x h => .inl h)⟩

set_option maxHeartbeats 4000000 in
set_option maxRecDepth 20000 in
theorem applyTimer_any (s : StV) (p : Nat) (f : EvF) (w : World) (hp : BoxAt w p 78 s.row) (h : StOk w s) (hT : TlOk s.tl) (hfn : f.nm.size ≤ 1048576) :
    Calls Tryz.prog 99 #[.pointer (some ⟨p, 0, none⟩), f.val] w fun e w' => SomeI e ∧ TimersTurned s p w w' := by
  obtain ⟨i0, hi, hz0, hz1, hz2⟩ := info_parts tmInfo
  have h8 := hT.1
  obtain ⟨id, ver, tm, ty, node, m, nm, A, c, bs, D, dc, dl⟩ := f
  have HTK := Lib.hid hT.2
  have HFN := Lib.hid hfn
  clear hT hfn
  have HH := Lib.hid h
  have HP0 := Lib.hid hp
  clear h
  unfold EvF.val EvF.row
  unfold StV.row at hp
  simp only
  obtain ⟨w1, hw1⟩ : ∃ w1, w1 = w.alloc (.cells #[.int .i64 id, .int .i64 ver, .int .i64 tm, .int .i64 ty, .int .i64 node, .int .i64 m, .string nm, .slice A bs.length c, .slice D dl.length dc] 32) := ⟨_, rfl⟩
  have bx : BoxAt w1 w.heap.size 32 #[.int .i64 id, .int .i64 ver, .int .i64 tm, .int .i64 ty, .int .i64 node, .int .i64 m, .string nm, .slice A bs.length c, .slice D dl.length dc] := by rw [hw1]; exact BoxAt.new w _ _
  have hc1 : Chg (fun _ => False) w w1 := by rw [hw1]; exact (Chg.refl _ _).alloc _
  have hpl := hp.lt
  have hp1 := hp.keep hc1 (fun h => h)
  clear hp
  go_enter Tryz.func99, Tryz.ntmps99
  go_upto_region 1 with fail
  rw [← hw1]
  clear hw1
  obtain ⟨g, hg⟩ : ∃ g, g = w.heap.size := ⟨_, rfl⟩
  rw [← hg] at bx ⊢
  have HG := Lib.hid hg
  have hpg : p ≠ g := by omega
  have hgp : g ≠ p := by omega
  clear hg
  go_cut [5] from 7 to 12 (fun v w' => (v = .int .i64 (-1) ∨ ∃ j : Nat, v = .int .i64 j ∧ j < s.tl.length) ∧ Chg (fun _ => False) w1 w')
  case first =>
    have q6 : w1.cell? ⟨g, 6, none⟩ = some (.string nm) := bx.cell 6 rfl
    have r0 : w1.cell? ⟨p, 0, none⟩ = some (.int .i64 s.id) := hp1.cell 0 rfl
    have r1 : w1.cell? ⟨p, 1, none⟩ = some (.int .i64 s.ver) := hp1.cell 1 rfl
    have r2 : w1.cell? ⟨p, 2, none⟩ = some (.int .i64 s.tm) := hp1.cell 2 rfl
    have r3 : w1.cell? ⟨p, 3, none⟩ = some (.int .i64 s.cl) := hp1.cell 3 rfl
    have r4 : w1.cell? ⟨p, 4, none⟩ = some (.bool s.ca) := hp1.cell 4 rfl
    have r5 : w1.cell? ⟨p, 5, none⟩ = some (.slice s.D s.dl.length s.dc) := hp1.cell 5 rfl
    have r6 : w1.cell? ⟨p, 6, none⟩ = some (.slice s.N s.nl.length s.nc) := hp1.cell 6 rfl
    have r7 : w1.cell? ⟨p, 7, none⟩ = some (.slice s.T s.tl.length s.tc) := hp1.cell 7 rfl
    have r8 : w1.cell? ⟨p, 8, none⟩ = some (.slice s.S s.sl.length s.sc) := hp1.cell 8 rfl
    have ht := fun (w' : World) (hc : Chg (fun _ => False) w1 w') => timer_any s nm w' (HH.out.still (hc1.trans hc (fun x hx => hx.elim)))
    unfold StV.val StV.row at ht
    have hSk : ∀ w', Chg (fun _ => False) w1 w' → (w'.cell? ⟨g, 6, none⟩ = some (.string nm) ∧ w'.cell? ⟨p, 0, none⟩ = some (.int .i64 s.id) ∧ w'.cell? ⟨p, 1, none⟩ = some (.int .i64 s.ver) ∧ w'.cell? ⟨p, 2, none⟩ = some (.int .i64 s.tm) ∧ w'.cell? ⟨p, 3, none⟩ = some (.int .i64 s.cl) ∧ w'.cell? ⟨p, 4, none⟩ = some (.bool s.ca) ∧ w'.cell? ⟨p, 5, none⟩ = some (.slice s.D s.dl.length s.dc) ∧ w'.cell? ⟨p, 6, none⟩ = some (.slice s.N s.nl.length s.nc) ∧ w'.cell? ⟨p, 7, none⟩ = some (.slice s.T s.tl.length s.tc) ∧ w'.cell? ⟨p, 8, none⟩ = some (.slice s.S s.sl.length s.sc)) := fun w' hc => ⟨hc.cell_some q6 (fun h => h), hc.cell_some r0 (fun h => h), hc.cell_some r1 (fun h => h), hc.cell_some r2 (fun h => h), hc.cell_some r3 (fun h => h), hc.cell_some r4 (fun h => h), hc.cell_some r5 (fun h => h), hc.cell_some r6 (fun h => h), hc.cell_some r7 (fun h => h), hc.cell_some r8 (fun h => h)⟩
    have k0 : Chg (fun _ => False) w1 w1.drew := (Chg.refl _ _).drew
    have HT := Lib.hid ht
    clear ht bx hp1
    go_region_held3 (fun w' => w'.cell? ⟨g, 6, none⟩ = some (.string nm) ∧ w'.cell? ⟨p, 0, none⟩ = some (.int .i64 s.id) ∧ w'.cell? ⟨p, 1, none⟩ = some (.int .i64 s.ver) ∧ w'.cell? ⟨p, 2, none⟩ = some (.int .i64 s.tm) ∧ w'.cell? ⟨p, 3, none⟩ = some (.int .i64 s.cl) ∧ w'.cell? ⟨p, 4, none⟩ = some (.bool s.ca) ∧ w'.cell? ⟨p, 5, none⟩ = some (.slice s.D s.dl.length s.dc) ∧ w'.cell? ⟨p, 6, none⟩ = some (.slice s.N s.nl.length s.nc) ∧ w'.cell? ⟨p, 7, none⟩ = some (.slice s.T s.tl.length s.tc) ∧ w'.cell? ⟨p, 8, none⟩ = some (.slice s.S s.sl.length s.sc)) (first | exact hSk _ k2 | exact hSk _ k0) (first
      | (go_at_call 105; (with_reducible refine (HT.out _ k0).mono ?_); rintro e w2 ⟨⟨kk, rfl, hkk⟩, hc2⟩; have k2 := k0.trans hc2 (fun x hx => hx.elim))
      | fail)
    all_goals
      go_wp2_with fail
      go_meet
      refine ⟨?_, by first | exact k2 | exact k0⟩
      rcases hkk with rfl | ⟨j, rfl, hj⟩
      · exact .inl rfl
      · exact .inr ⟨j, rfl, hj⟩
  case rest =>
    obtain ⟨hv, hcA⟩ := hcut
    have hcB := hc1.trans hcA (fun x hx => hx.elim)
    have bx2 := bx.keep hcA (fun h => h)
    have hp2 := hp1.keep hcA (fun h => h)
    clear bx hp1 hc1 hcA
    have r7 : (wc.alloc (.cells #[] 129)).cell? ⟨p, 7, none⟩ = some (.slice s.T s.tl.length s.tc) := (hp2.keep ((Chg.refl (fun _ => False) _).alloc _) (fun h => h)).cell 7 rfl
    have hmade : (wc.alloc (.cells #[] 129)).ownsRow wc.heap.size 129 3 (.slice (some ⟨wc.heap.size, 0, none⟩) 0 0) 0 [] := World.ownsRow_made wc #[] 0 (Nat.le_refl _) (by decide) rfl
    have hl1 : 0 + s.tl.length ≤ maxLen := by simp only [maxLen]; omega
    have hl2 : (0 + s.tl.length) * 32 ≤ 140737488355328 := by omega
    have hRT := HH.out.tm.keep hcB (fun _ _ h => h)
    go_upto_region 3 with (at_builtin; refine wpList_append_rd _ rfl (.tmp 13) (.tmp 17) 75 rfl wc.heap.size 129 i0 _ 3 32 Tryz.underlying75 hi hz0 hz1 hz2 rfl (by decide) _ 0 0 [] rfl hmade s.T s.tl.length s.tc (tmC s.tl) rfl (tmC_len _) (hRT.alloc _) (tmC_one _) hl1 hl2 (by simp) ?_; intro A2 c2 w2 hown2 hg2 hb2)
    have hcC := chg_made hg2
    have hc2 := hcB.trans hcC (fun x hx => hx.elim)
    have bx3 := bx2.keep hcC (fun h => h)
    have hp3 := hp2.keep hcC (fun h => h)
    simp only [Nat.zero_add, List.nil_append] at hown2 ⊢
    obtain ⟨base, hbase⟩ : ∃ base, base = wc.heap.size := ⟨_, rfl⟩
    have hpb : p < base := by rw [hbase]; exact hp2.lt
    have hwb : w.heap.size ≤ base := by rw [hbase]; exact hcB.size
    rw [← hbase] at hown2
    have hb2 : base ≤ w2.heap.size := by rw [hbase]; exact hcC.size
    clear r7 hmade hl1 hl2 hRT bx2 hp2 hcB hcC hbase
    have q3 : w2.cell? ⟨g, 3, none⟩ = some (.int .i64 ty) := bx3.cell 3 rfl
    obtain ⟨tl, htl⟩ : ∃ tl, tl = s.tl := ⟨_, rfl⟩
    have HTL := Lib.hid htl
    rw [← htl] at hown2 hv h8 ⊢
    clear htl
    by_cases hty : ty = 5
    · subst hty
      go_upto_region 4 with fail
      rcases hv with rfl | ⟨j, rfl, hj⟩
      · have f0 : ¬ (0 : Int) ≤ -1 := by omega
        by_cases ht8 : 8 ≤ tl.length
        · have f1 : (8 : Int) ≤ (tl.length : Int) := by omega
          go_wp2_with fail
          go_ret
          exact ⟨⟨_, rfl⟩, TimersTurned.still HP0.out HH.out.tm ⟨by rw [← HTL.out]; exact h8, HTK.out⟩ hc2⟩
        · have f1 : ¬ (8 : Int) ≤ (tl.length : Int) := by omega
          have q2 : w2.cell? ⟨g, 2, none⟩ = some (.int .i64 tm) := bx3.cell 2 rfl
          have q5 : w2.cell? ⟨g, 5, none⟩ = some (.int .i64 m) := bx3.cell 5 rfl
          have q6 : w2.cell? ⟨g, 6, none⟩ = some (.string nm) := bx3.cell 6 rfl
          have hl1 : tl.length + 1 ≤ maxLen := by simp only [maxLen]; omega
          have hl2 : (tl.length + 1) * 32 ≤ 140737488355328 := by omega
          have hba : ∀ d : Value, base ≤ (w2.alloc (.cells #[.string nm, d, .bool false] 129)).heap.size := fun d => by simp; omega
          go_upto_region 9 with (at_builtin; refine wpList_append_rd _ rfl (.tmp 28) (.tmp 37) 75 rfl base 129 i0 _ 3 32 Tryz.underlying75 hi hz0 hz1 hz2 rfl (by decide) A2 tl.length c2 (tmC tl) rfl (World.ownsRow.alloc hown2 _) (some ⟨w2.heap.size, 0, none⟩) 1 1 (tmC [⟨nm, _, false⟩]) rfl rfl (Rd.newRow w2 _ _ _ rfl) (tmC_one _) hl1 hl2 (hba _) ?_; intro A7 c7 w7 hown7 hg7 hb7; have hc7 : Chg (In A2) w2 w7 := ((Chg.refl _ w2).alloc _).trans hg7 (fun x hx => .inl hx); have hpA : ¬ In A2 p := (fun hx => by have h1 := (own_lt hown2 hx).1; omega); have hp7 := hp3.keep hc7 hpA; have p7 : w7.cell? ⟨p, 7, none⟩ = some (.slice s.T s.tl.length s.tc) := hp7.cell 7 rfl; have y7 := hp7.fz 7)
          go_wp2_with fail
          go_ret
          rw [← tmC_app] at hown7
          exact ⟨⟨_, rfl⟩, TimersTurned.put hp7 (hc2.trans hc7 (fun x hx => .inr (by have h1 := (own_lt hown2 hx).1; omega))) (Rd.of_own hown7) (fun x hx => ⟨by have h1 := (own_lt hown7 hx).1; omega, fun e => by have h1 := (own_lt hown7 hx).1; omega⟩) (by rw [List.length_append]; rfl) ⟨by rw [List.length_append]; simp only [List.length_cons, List.length_nil]; omega, fun t ht => by
            rcases List.mem_append.1 ht with ht | ht
            · exact HTK.out t (by rw [← HTL.out]; exact ht)
            · simp only [List.mem_singleton] at ht; rw [ht]; exact HFN.out⟩⟩
      · have f0 : (0 : Int) ≤ (j : Int) := by omega
        go_wp2_with fail
        go_ret
        exact ⟨⟨_, rfl⟩, TimersTurned.still HP0.out HH.out.tm ⟨by rw [← HTL.out]; exact h8, HTK.out⟩ hc2⟩
    · go_upto_region 10 with fail
      have HTY := Lib.hid hty
      clear hty
      go_cut [59] from 19 to 58 (fun v w' => (∃ b : Bool, v = .bool b ∧ (u5 = .int .i64 (-1) → b = true)) ∧ Chg (fun _ => False) w2 w')
      case first =>
        rcases hv with rfl | ⟨j, rfl, hj⟩
        · have f0 : decide ((-1 : Int) < 0) = true := by decide
          go_quiet (fail)
          go_wp2_with fail
          go_meet
          exact ⟨⟨_, rfl, fun _ => (by first | rfl | trivial)⟩, (Chg.refl _ _).drewN _⟩
        · have f0 : decide ((j : Int) < 0) = false := by simp
          obtain ⟨t0, t1, t2⟩ := tmC_get tl j hj
          obtain ⟨x, hx⟩ : ∃ x, x = tl[j] := ⟨_, rfl⟩
          rw [← hx] at t0 t1 t2
          clear hx
          have hrd := Rd.of_own hown2
          obtain ⟨b5, o5, rfl, _⟩ := hrd.at_ (k := 0) (by rw [tmC_len]; omega)
          have c1 := hrd.cells rfl _ _ t1
          have c2 := hrd.cells rfl _ _ t2
          rw [← Nat.add_assoc] at c1 c2
          have q2 : w2.cell? ⟨g, 2, none⟩ = some (.int .i64 tm) := bx3.cell 2 rfl
          have i0 : (0 : Int) ≤ (j : Int) := by omega
          have i1 : (j : Int) < (tl.length : Int) := by omega
          obtain ⟨xn, xd, fi⟩ := x
          simp only at c1 c2
          clear t0 t1 t2 hrd
          cases fi
          all_goals
            go_quiet (fail)
            go_wp2_with fail
            go_meet
            exact ⟨⟨_, rfl, fun e => absurd e (by intro e; injection e with _ e; omega)⟩, (Chg.refl _ _).drewN _⟩
      case rest =>
        obtain ⟨⟨b, rfl, hb⟩, hcX⟩ := hcut
        have hc3 := hc2.trans hcX (fun x hx => hx.elim)
        have hp4 := hp3.keep hcX (fun h => h)
        have hown3 := hcX.own hown2 (fun _ _ h => h)
        rcases hv with rfl | ⟨j, rfl, hj⟩
        · obtain rfl := hb rfl
          go_wp2_with fail
          go_ret
          exact ⟨⟨_, rfl⟩, TimersTurned.still HP0.out HH.out.tm ⟨by rw [← HTL.out]; exact h8, HTK.out⟩ hc3⟩
        · clear hb
          cases b
          rotate_left
          · go_wp2_with fail
            go_ret
            exact ⟨⟨_, rfl⟩, TimersTurned.still HP0.out HH.out.tm ⟨by rw [← HTL.out]; exact h8, HTK.out⟩ hc3⟩
          obtain ⟨gl, rfl⟩ : ∃ gl, A2 = some ⟨gl, 0, none⟩ := by
            rcases hown3.2 with ⟨h0, h1⟩ | ⟨g9, cap9, cur9, hv9, _⟩
            · omega
            · injection hv9 with h9; exact ⟨g9, h9⟩
          have hgl : base ≤ gl ∧ gl < wc.heap.size := own_lt hown3 rfl
          have hglp : gl ≠ p := by omega
          have hpgl : p ≠ gl := by omega
          have t2 := (Rd.of_own hown3).cells rfl _ _ (tmC_get tl j hj).2.2
          simp only [Nat.zero_add] at t2
          have z2 := hown3.frozenAt (j * 3 + 2)
          have p7 : wc.cell? ⟨p, 7, none⟩ = some (.slice s.T s.tl.length s.tc) := hp4.cell 7 rfl
          have y7 := hp4.fz 7
          have i0 : (0 : Int) ≤ (j : Int) := by omega
          have i1 : (j : Int) < (tl.length : Int) := by omega
          have hs := hown3.stored (j * 3 + 2) (.bool true)
          rw [tmC_set2 true tl j hj] at hs
          have hcS := chg_put wc gl (j * 3 + 2) (.bool true)
          have hc4 := hc3.trans hcS (fun x hx => .inr (by rw [hx]; omega))
          have hp5 := hp4.keep hcS hpgl
          go_wp2_with fail
          go_ret
          exact ⟨⟨_, rfl⟩, TimersTurned.put hp5 hc4 (Rd.of_own hs.1) (fun x hx => ⟨by have h1 := (own_lt hs.1 hx).1; omega, fun e => by have h1 := (own_lt hs.1 hx).1; omega⟩) List.length_set ⟨by rw [List.length_set]; exact h8, fun t ht => by
            rcases List.mem_or_eq_of_mem_set ht with ht | ht
            · exact HTK.out t (by rw [← HTL.out]; exact ht)
            · rw [ht]; exact HTK.out tl[j] (by rw [← HTL.out]; exact List.getElem_mem hj)⟩⟩
end Go.Proofs.YtngfimjbgopgjaaGreatDoor
