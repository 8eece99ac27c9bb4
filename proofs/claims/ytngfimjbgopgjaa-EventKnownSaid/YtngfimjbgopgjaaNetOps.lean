/- Contracts of net.Put, Peek, Take, Double, Lose. -/
import Derived.Test.YtngfimjbgopgjaaNetDel
import Derived.Laws.ResultCell
namespace Go.Proofs.Ytngfimjbgopgjaa
open Go.RowKit
set_option linter.unusedVariables false

theorem results_cell_row_tmp {P : Program} {fn : Func} {p u : Tmp} {ty : TypeId} (h : fn.results = #[.cell p ty, .tmp u]) (tmps : Array Value) (w : World) (g : Nat) (t : TypeId) (cs : Array Value) (fr : Nat × Nat) (d : TypeDesc)
    (hp : tmps.getD p undef = .pointer (some ⟨g, 0, none⟩)) (hg : w.heap[g]? = some (.cells cs t fr))
    (hu : P.underlying ty = some d) (hd : (match d with | .struct _ | .array _ _ => true | _ => false) = true) (hi : (P.info? ty).map (·.size) = some cs.size) :
    (results fn tmps).run P w = .ok (.tuple #[.agg cs, tmps.getD u undef]) w := by
  rw [results_cell_tmp h, hp]
  simp [asAddr, run_loadVar_row w g t ty cs fr d hg hu hd hi, Result.andThen]

/-- A packet more. -/
theorem NetAt.more {w w2 w4 : World} {base g c c4 : Nat} {A A4 : Option Addr} {ps : List Pk} {lost : Int} {p : Pk} (h : NetAt w base g A c ps lost)
    (ho : w4.ownsRow base 69 3 (.slice A4 (ps.length + 1) c4) (ps.length + 1) (pkC (ps ++ [p])))
    (hc : Chg (fun _ => False) w w2) (hf : Rd w2 p.A (p.bs.map (Value.int .u8)) ∧ (p.bs ≠ [] → ∀ x, blk p.A = some x → w.heap.size ≤ x ∧ x < w2.heap.size))
    (hc4 : Chg (In A) w2 w4) (hb : blk A4 = blk A ∨ ∃ z, blk A4 = some z ∧ w2.heap.size ≤ z) (hbase : base ≤ w.heap.size) :
    Netted w (w4.setCell ⟨g, 0, none⟩ (.slice A4 (ps.length + 1) c4)) base g A ps (ps ++ [p]) lost := by
  have hlt := h.lt
  have hA : ∀ x, In A x → base ≤ x ∧ x < w.heap.size := fun x hx => own_lt h.row hx
  have hcA : Chg (In A) w w4 := (hc.mono (T := In A) (fun x hx => hx.elim)).trans hc4 (fun x hx => .inl hx)
  have hng : w4.heap[g]? = some (.cells #[.slice A ps.length c, .int .i64 lost] 115 (0, 0)) := hcA.heap_some h.net h.far
  have hA4 : ∀ x, In A4 x → In A x ∨ w2.heap.size ≤ x := fun x hx => by
    rcases hb with e | ⟨z, e, hz⟩
    · exact .inl (by show blk A = some x; rw [← e]; exact hx)
    · have : z = x := by have h1 : blk A4 = some x := hx; rw [e] at h1; injection h1
      exact .inr (by omega)
  have hsz := hc.size
  have hfar4 : ¬ In A4 g := fun hx => by rcases hA4 g hx with h1 | h1; exact h.far h1; omega
  have hcS : Chg (fun x => x = g) w4 (w4.setCell ⟨g, 0, none⟩ (.slice A4 (ps.length + 1) c4)) := (Chg.refl (fun x => x = g) w4).setCell (p := ⟨g, 0, none⟩) (.inl (rfl : g = g)) _
  refine ⟨A4, c4, ⟨?_, ?_, h.low, hfar4, ?_, ?_⟩, (hcA.mono (T := nCore g A) (fun x hx => .inl (.inr hx))).setCell (p := ⟨g, 0, none⟩) (.inl (.inl rfl)) _, ?_, ?_⟩
  · rw [List.length_append, List.length_singleton]
    simp [World.setCell, Array.getElem?_modify, hng]
  · rw [List.length_append, List.length_singleton]
    exact hcS.ownS ho (fun x hx e => hfar4 (by subst e; exact hx))
  · intro q hq
    rcases List.mem_append.1 hq with hq | hq
    · refine ((h.rds q hq).keep' hcA (fun hne x hx hs => (h.apart q hq (by rintro e; rw [e] at hne; exact hne rfl) x hx).2.2 hs)).keep' hcS (fun hne x hx hs => (h.apart q hq (by rintro e; rw [e] at hne; exact hne rfl) x hx).2.1 hs)
    · simp only [List.mem_singleton] at hq
      subst hq
      refine (hf.1.keep' hc4 (fun hne x hx hs => ?_)).keep' hcS (fun hne x hx hs => ?_)
      · have h1 := (hf.2 (by rintro e; rw [e] at hne; exact hne rfl) x hx).1
        have h2 := (hA x hs).2
        omega
      · have h1 := (hf.2 (by rintro e; rw [e] at hne; exact hne rfl) x hx).1
        omega
  · intro q hq hne x hx
    rcases List.mem_append.1 hq with hq | hq
    · obtain ⟨a1, a2, a3⟩ := h.apart q hq hne x hx
      have hxl := (h.rds q hq).old (by simpa using hne) x hx
      exact ⟨a1, a2, fun hi => by rcases hA4 x hi with h1 | h1; exact a3 h1; omega⟩
    · simp only [List.mem_singleton] at hq
      subst hq
      obtain ⟨h1, h2⟩ := hf.2 hne x hx
      exact ⟨by omega, by omega, fun hi => by rcases hA4 x hi with h3 | h3; have := (hA x h3).2; omega; omega⟩
  · rintro x (hx | hx)
    · exact .inl (.inl hx)
    · rcases hA4 x hx with h1 | h1
      · exact .inl (.inr h1)
      · exact .inr (by omega)
  · rintro x ⟨q, hq, hne, hx⟩
    rcases List.mem_append.1 hq with hq | hq
    · exact .inl ⟨q, hq, hne, hx⟩
    · simp only [List.mem_singleton] at hq
      subst hq
      exact .inr (hf.2 hne x hx).1

set_option maxHeartbeats 1000000 in
set_option maxRecDepth 20000 in
theorem put_yes (w : World) (base g c : Nat) (A : Option Addr) (ps : List Pk) (lost : Int) (h : NetAt w base g A c ps lost) (f t : Int) (B : Option Addr) (n d : Nat) (bs : List Int) (hr : Rd w B (bs.map (Value.int .u8))) (hn : bs.length = n) (hn2 : n ≤ 140737488355328) (hroom : ps.length < 500) (hbase : base ≤ w.heap.size) :
    Calls Try.prog 69 #[.pointer (some ⟨g, 0, none⟩), .agg #[.int .i64 f, .int .i64 t, .slice B n d]] w fun e w' => e = .returned (.bool true) ∧ ∃ p : Pk, p.v = (f, t, bs) ∧ Netted w w' base g A ps (ps ++ [p]) lost := by
  subst hn
  obtain ⟨i0, hi, hz0, hz1, hz2⟩ := info_parts pkInfo
  have hc1 : Chg (fun _ => False) w (w.alloc (.cells #[.int .i64 f, .int .i64 t, .slice B bs.length d] 69)) := (Chg.refl _ _).alloc _
  have h1 := h.keep hc1 (fun x hx => hx.elim)
  have b1 := BoxPk.new w f t (.slice B bs.length d)
  have hr1 := hr.alloc (.cells #[.int .i64 f, .int .i64 t, .slice B bs.length d] 69)
  have c0 := h1.c0
  have q0 := b1.c0
  have q1 := b1.c1
  have q2 := b1.c2
  have z0 := h1.fz 0
  have hl1 : ps.length + 1 ≤ maxLen := by simp only [maxLen]; omega
  have hl2 : (ps.length + 1) * 40 ≤ 140737488355328 := by omega
  have hroom' : (ps.length : Int) < 500 := by omega
  have hx0 : g ≠ w.heap.size := by have := h.lt; omega
  go_enter Try.func69, Try.ntmps69
  go_wp2_with fail
  obtain ⟨w1, hw1⟩ : ∃ w1, w1 = w.alloc (.cells #[.int .i64 f, .int .i64 t, .slice B bs.length d] 69) := ⟨_, rfl⟩
  obtain ⟨x, hx⟩ : ∃ x, x = w.heap.size := ⟨_, rfl⟩
  rw [← hw1] at hc1 h1 b1 hr1 c0 q0 q1 q2 z0
  rw [← hx] at b1 q0 q1 q2 hx0
  rw [← hw1, ← hx]
  have HX := Lib.hid hx
  clear hw1 hx
  have hbase1 : base ≤ w1.heap.size := Nat.le_trans hbase hc1.size
  have h1d : NetAt w1.drew base g A c ps lost := h1.keep ((Chg.refl (fun _ => False) w1).drew) (fun x hx => hx.elim)
  have hr2 : Rd w1.drew B (bs.map (Value.int .u8)) := hr1
  go_region_law (first
    | (refine step_append_rd _ rfl (.tmp 22) (.tmp 25) 82 rfl base 69 i0 _ 3 40 Try.underlying82 hi hz0 hz1 hz2 rfl (by decide) A ps.length c (pkC ps) (by simp [Act.eval]) (World.ownsRow.alloc ho2 _) (some ⟨w2.heap.size, 0, none⟩) 1 1 (pkC [⟨f, t, A2, c2, bs⟩]) (by simp [Act.eval]) rfl (by exact Rd.newRow w2 _ _ _ rfl) (pkC_one _) hl1 hl2 hbase2 ?_; intro A4 c4 w4 hown4 hg4 hb4; have hc4 : Chg (In A) w2 w4 := ((Chg.refl _ w2).alloc _).trans hg4 (fun x hx => .inl hx); have y0 := hc4.cell_some (p := ⟨g, 0, none⟩) d0 h1.far; have y1 : w4.frozen? ⟨g, 0, none⟩ = false := (by rw [hc4.frozen (p := ⟨g, 0, none⟩) h2.lt h1.far]; exact h2.fz 0))
    | (go_simp; go_at_call 108; go_must (refine (copied_any f t B bs.length d bs _ hr2 rfl hn2).mono ?_; rintro e w2 ⟨A2, c2, rfl, hf2, hc2⟩; have h2 := h1d.keep hc2 (fun x hx => hx.elim); have d0 : w2.cell? ⟨g, 0, none⟩ = some (.slice A ps.length c) := h2.c0; have d1 : (w2.alloc (.cells #[.int .i64 f, .int .i64 t, .slice A2 bs.length c2] 69)).cell? ⟨g, 0, none⟩ = some (.slice A ps.length c) := ((Chg.refl (fun _ => False) w2).alloc _).cell_some d0 (fun h => h); have ho2 : w2.ownsRow base 69 3 (.slice A ps.length c) ps.length (pkC ps) := h2.row; have hbase2 : base ≤ (w2.alloc (.cells #[.int .i64 f, .int .i64 t, .slice A2 bs.length c2] 69)).heap.size := Nat.le_trans (Nat.le_trans hbase1 hc2.size) (by simp))))
  all_goals
    go_wp2_with fail
    go_ret
    have hcw : Chg (fun _ => False) w w2 := (hc1.drew).trans hc2 (fun x hx => hx.elim)
    have hf3 : bs ≠ [] → ∀ z, blk A2 = some z → w.heap.size ≤ z ∧ z < w2.heap.size := fun hne z hz => ⟨Nat.le_trans hc1.size (hf2.2 hne z hz).1, (hf2.2 hne z hz).2⟩
    refine ⟨rfl, ⟨f, t, A2, c2, bs⟩, rfl, ?_⟩
    refine NetAt.more (p := ⟨f, t, A2, c2, bs⟩) h ?_ hcw ⟨hf2.1, hf3⟩ hc4 ?_ hbase
    · rw [pkC_app]; exact hown4
    · rcases hb4 with e | e
      · exact .inl e
      · exact .inr ⟨_, e, by simp⟩

/-- A lost packet more. -/
theorem NetAt.lostMore {w : World} {base g c : Nat} {A : Option Addr} {ps : List Pk} {lost : Int} (h : NetAt w base g A c ps lost) (l' : Int) :
    NetAt (w.setCell ⟨g, 1, none⟩ (.int .i64 l')) base g A c ps l' ∧ Chg (fun x => x = g) w (w.setCell ⟨g, 1, none⟩ (.int .i64 l')) := by
  have hcS : Chg (fun x => x = g) w (w.setCell ⟨g, 1, none⟩ (.int .i64 l')) := (Chg.refl (fun x => x = g) w).setCell (p := ⟨g, 1, none⟩) (.inl (rfl : g = g)) _
  have hng := h.net
  refine ⟨⟨?_, hcS.ownS h.row (fun x hx e => h.far (by subst e; exact hx)), h.low, h.far, fun q hq => (h.rds q hq).keep' hcS (fun hne x hx hs => (h.apart q hq (by rintro e; rw [e] at hne; exact hne rfl) x hx).2.1 hs), h.apart⟩, hcS⟩
  simp [World.setCell, Array.getElem?_modify, hng]

set_option maxHeartbeats 1000000 in
set_option maxRecDepth 20000 in
theorem put_no (w : World) (base g c : Nat) (A : Option Addr) (ps : List Pk) (lost : Int) (h : NetAt w base g A c ps lost) (f t : Int) (B : Option Addr) (n d : Nat) (hroom : 500 ≤ ps.length) (h0 : 0 ≤ lost) (hl : lost ≤ 1000000) :
    Calls Try.prog 69 #[.pointer (some ⟨g, 0, none⟩), .agg #[.int .i64 f, .int .i64 t, .slice B n d]] w fun e w' => e = .returned (.bool false) ∧ Netted w w' base g A ps ps (lost + 1) := by
  have hc1 : Chg (fun _ => False) w (w.alloc (.cells #[.int .i64 f, .int .i64 t, .slice B n d] 69)) := (Chg.refl _ _).alloc _
  have h1 := h.keep hc1 (fun x hx => hx.elim)
  have c0 := h1.c0
  have c1 := h1.c1
  have z1 := h1.fz 1
  have hw : IntKind.i64.wrap (lost + 1) = lost + 1 := IntWalk.i64_in _ (by omega)
  have hroom' : (500 : Int) ≤ (ps.length : Int) := by omega
  go_enter Try.func69, Try.ntmps69
  go_wp2_with fail
  go_ret
  obtain ⟨h2, hc2⟩ := h1.lostMore (lost + 1)
  exact ⟨rfl, A, c, h2, (hc1.mono (T := nCore g A) (fun x hx => hx.elim)).trans hc2 (fun x hx => .inl (.inl hx)), fun x hx => .inl hx, fun x hx => .inl hx⟩

set_option maxHeartbeats 1000000 in
set_option maxRecDepth 20000 in
/-- What Peek gives of a packet that is there: its copy. -/
theorem peek_yes (w : World) (base g c : Nat) (A : Option Addr) (ps : List Pk) (lost : Int) (h : NetAt w base g A c ps lost) (k : Nat) (hk : k < ps.length) (hn : ps.length ≤ 1000) (hbs : ps[k].bs.length ≤ 140737488355328) :
    Calls Try.prog 72 #[.pointer (some ⟨g, 0, none⟩), .int .i64 k] w fun e w' => ∃ A' c', e = .returned (.tuple #[.agg #[.int .i64 ps[k].f, .int .i64 ps[k].t, .slice A' ps[k].bs.length c'], .bool true]) ∧ Fresh w w' A' ps[k].bs ∧ Chg (fun _ => False) w w' := by
  have hc1 : Chg (fun _ => False) w (w.alloc (.cells #[.int .i64 0, .int .i64 0, .slice none 0 0] 69)) := (Chg.refl _ _).alloc _
  have h1 := h.keep hc1 (fun x hx => hx.elim)
  have b1 := BoxPk.new w 0 0 (.slice none 0 0)
  have hp := h.rds ps[k] (List.getElem_mem _)
  obtain ⟨b, o, rfl, _⟩ := h1.rd.at_ (k := 0) (by rw [pkC_len]; omega)
  obtain ⟨p0, p1, p2⟩ := pkC_get ps k hk
  have r0 := h1.rd.cells rfl _ _ p0
  have r1 := h1.rd.cells rfl _ _ p1
  have r2 := h1.rd.cells rfl _ _ p2
  rw [← Nat.add_assoc] at r1 r2
  obtain ⟨p, hpk⟩ : ∃ p, p = ps[k] := ⟨_, rfl⟩
  rw [← hpk] at r0 r1 r2 hp hbs ⊢
  clear p0 p1 p2 hpk
  have hp1 := hp.alloc (.cells #[.int .i64 0, .int .i64 0, .slice none 0 0] 69)
  have c0 := h1.c0
  have hky : (decide (0 ≤ (k : Int)) && decide ((k : Int) < (ps.length : Int))) = true := by simp; omega
  have k0 : (0 : Int) ≤ (k : Int) := by omega
  have k1 : (k : Int) < (ps.length : Int) := by omega
  go_enter Try.func72, Try.ntmps72
  go_wp2_with (first
    | (go_at_call 110; go_must (refine (netIs_any _ base g c _ ps lost (k : Int) h1).mono ?_; rintro e w' ⟨rfl, rfl⟩; rw [hky]))
    | (go_at_call 108; go_must (refine (copied_any p.f p.t p.A p.bs.length p.c p.bs _ hp1 rfl hbs).mono ?_; rintro e w2 ⟨A2, c2, rfl, hf2, hc2⟩; have b2 := b1.keep hc2 (fun h => h); have q0 := b2.c0; have q1 := b2.c1; have q2 := b2.c2; have z0 := b2.fz 0; have z1 := b2.fz 1; have z2 := b2.fz 2)))
  (try simp only [Exit.inBlock, Exit.then])
  refine bodyPost_ret (results_cell_row_tmp rfl _ _ w.heap.size _ _ _ _ rfl (BoxPk.set3 b2 p.f p.t (.slice A2 p.bs.length c2)) Try.underlying69 rfl pkSize) rfl ?_
  have hcB : Chg (fun x => x = w.heap.size) w2 (((w2.setCell ⟨w.heap.size, 0, none⟩ (.int .i64 p.f)).setCell ⟨w.heap.size, 1, none⟩ (.int .i64 p.t)).setCell ⟨w.heap.size, 2, none⟩ (.slice A2 p.bs.length c2)) :=
    (((Chg.refl (fun x => x = w.heap.size) w2).setCell (p := ⟨w.heap.size, 0, none⟩) (.inl rfl) _).setCell (p := ⟨w.heap.size, 1, none⟩) (.inl rfl) _).setCell (p := ⟨w.heap.size, 2, none⟩) (.inl rfl) _
  have hcA : Chg (fun _ => False) w w2 := hc1.trans hc2 (fun x hx => hx.elim)
  refine ⟨A2, c2, rfl, ⟨hf2.1.keep' hcB (fun hne x hx hs => ?_), fun hne x hx => ?_⟩, hcA.trans hcB (fun x hx => .inr (by omega))⟩
  · have h3 := (hf2.2 (by rintro e; rw [e] at hne; exact hne rfl) x hx).1
    simp at h3
    omega
  · have h3 := hf2.2 hne x hx
    have h4 := hcB.size
    have h5 := hc1.size
    exact ⟨by omega, by omega⟩

set_option maxHeartbeats 1000000 in
set_option maxRecDepth 20000 in
theorem peek_no (w : World) (base g c : Nat) (A : Option Addr) (ps : List Pk) (lost : Int) (h : NetAt w base g A c ps lost) (k : Int) (hk : k < 0 ∨ ps.length ≤ k) :
    Calls Try.prog 72 #[.pointer (some ⟨g, 0, none⟩), .int .i64 k] w fun e w' => e = .returned (.tuple #[.agg #[.int .i64 0, .int .i64 0, .slice none 0 0], .bool false]) ∧ Chg (fun _ => False) w w' := by
  have hc1 : Chg (fun _ => False) w (w.alloc (.cells #[.int .i64 0, .int .i64 0, .slice none 0 0] 69)) := (Chg.refl _ _).alloc _
  have h1 := h.keep hc1 (fun x hx => hx.elim)
  have hky : (decide (0 ≤ k) && decide (k < (ps.length : Int))) = false := by simp; omega
  go_enter Try.func72, Try.ntmps72
  go_wp2_with (go_at_call 110; go_must (refine (netIs_any _ base g c A ps lost k h1).mono ?_; rintro e w' ⟨rfl, rfl⟩; rw [hky]))
  (try simp only [Exit.inBlock, Exit.then])
  refine bodyPost_ret (results_cell_row_tmp rfl _ _ w.heap.size _ #[.int .i64 0, .int .i64 0, .slice none 0 0] (0, 0) _ rfl (heap_alloc_new w _) Try.underlying69 rfl pkSize) rfl ?_
  exact ⟨rfl, hc1⟩

set_option maxHeartbeats 1000000 in
set_option maxRecDepth 20000 in
theorem take_no (w : World) (base g c : Nat) (A : Option Addr) (ps : List Pk) (lost : Int) (h : NetAt w base g A c ps lost) (k : Int) (hk : k < 0 ∨ ps.length ≤ k) :
    Calls Try.prog 71 #[.pointer (some ⟨g, 0, none⟩), .int .i64 k] w fun e w' => e = .returned (.tuple #[.agg #[.int .i64 0, .int .i64 0, .slice none 0 0], .bool false]) ∧ Chg (fun _ => False) w w' := by
  have hc1 : Chg (fun _ => False) w (w.alloc (.cells #[.int .i64 0, .int .i64 0, .slice none 0 0] 69)) := (Chg.refl _ _).alloc _
  have h1 := h.keep hc1 (fun x hx => hx.elim)
  have b1 := BoxPk.new w 0 0 (.slice none 0 0)
  go_enter Try.func71, Try.ntmps71
  go_wp2_with (go_at_call 72; go_must (refine (peek_no _ base g c A ps lost h1 k hk).mono ?_; rintro e w2 ⟨rfl, hc2⟩; have b2 : BoxPk (w2.alloc (.cells #[.int .i64 0, .int .i64 0, .slice none 0 0] 69)) w.heap.size 0 0 (.slice none 0 0) := (b1.keep hc2 (fun h => h)).keep (S := fun _ => False) ((Chg.refl _ _).alloc _) (fun h => h); have b3 := BoxPk.new w2 0 0 (.slice none 0 0); have q0 := b2.c0; have q1 := b2.c1; have q2 := b2.c2; have z0 := b2.fz 0; have z1 := b2.fz 1; have z2 := b2.fz 2; have r0 := b3.c0; have r1 := b3.c1; have r2 := b3.c2))
  (try simp only [Exit.inBlock, Exit.then])
  refine bodyPost_ret (results_cell_row_tmp rfl _ _ w.heap.size _ _ _ _ rfl (BoxPk.set3 b2 0 0 (.slice none 0 0)) Try.underlying69 rfl pkSize) rfl ?_
  exact ⟨rfl, (((((hc1.trans hc2 (fun x hx => hx.elim)).alloc _).setCell (p := ⟨w.heap.size, 0, none⟩) (.inr (Nat.le_refl _)) _).setCell (p := ⟨w.heap.size, 1, none⟩) (.inr (Nat.le_refl _)) _).setCell (p := ⟨w.heap.size, 2, none⟩) (.inr (Nat.le_refl _)) _)⟩

/-- A packet less. -/
theorem NetAt.less {w w2 w4 : World} {base g c m : Nat} {A : Option Addr} {ps ps' : List Pk} {lost : Int} (h : NetAt w base g A c ps lost) (hsub : ∀ p ∈ ps', p ∈ ps) (hm : ps'.length = m)
    (ho : w4.ownsRow base 69 3 (.slice A m c) m (pkC ps')) (hc : Chg (fun _ => False) w w2) (hc4 : Chg (In A) w2 w4) :
    NetAt (w4.setCell ⟨g, 0, none⟩ (.slice A m c)) base g A c ps' lost ∧ Chg (nCore g A) w (w4.setCell ⟨g, 0, none⟩ (.slice A m c)) := by
  subst hm
  have hcA : Chg (In A) w w4 := (hc.mono (T := In A) (fun x hx => hx.elim)).trans hc4 (fun x hx => .inl hx)
  have hng : w4.heap[g]? = some (.cells #[.slice A ps.length c, .int .i64 lost] 115 (0, 0)) := hcA.heap_some h.net h.far
  have hcS : Chg (fun x => x = g) w4 (w4.setCell ⟨g, 0, none⟩ (.slice A ps'.length c)) := (Chg.refl (fun x => x = g) w4).setCell (p := ⟨g, 0, none⟩) (.inl (rfl : g = g)) _
  refine ⟨⟨?_, ?_, h.low, h.far, ?_, fun p hp => h.apart p (hsub p hp)⟩, (hcA.mono (T := nCore g A) (fun x hx => .inl (.inr hx))).setCell (p := ⟨g, 0, none⟩) (.inl (.inl rfl)) _⟩
  · simp [World.setCell, Array.getElem?_modify, hng]
  · exact hcS.ownS ho (fun x hx e => h.far (by subst e; exact hx))
  · intro q hq
    exact ((h.rds q (hsub q hq)).keep' hcA (fun hne x hx hs => (h.apart q (hsub q hq) (by rintro e; rw [e] at hne; exact hne rfl) x hx).2.2 hs)).keep' hcS (fun hne x hx hs => (h.apart q (hsub q hq) (by rintro e; rw [e] at hne; exact hne rfl) x hx).2.1 hs)

/-- The packets but for one. -/
def butAt (ps : List Pk) (k : Nat) : List Pk := ps.take k ++ ps.drop (k + 1)
theorem butAt_sub {ps : List Pk} {k : Nat} : ∀ p ∈ butAt ps k, p ∈ ps := fun p hp => by
  rcases List.mem_append.1 hp with h | h
  · exact List.mem_of_mem_take h
  · exact List.mem_of_mem_drop h
theorem butAt_len {ps : List Pk} {k : Nat} (hk : k < ps.length) : (butAt ps k).length = ps.length - 1 := by
  unfold butAt
  rw [List.length_append, List.length_take, List.length_drop]
  omega

set_option maxHeartbeats 1000000 in
set_option maxRecDepth 20000 in
theorem take_yes (w : World) (base g c : Nat) (A : Option Addr) (ps : List Pk) (lost : Int) (h : NetAt w base g A c ps lost) (k : Nat) (hk : k < ps.length) (hn : ps.length ≤ 1000) (hbs : ps[k].bs.length ≤ 140737488355328) :
    Calls Try.prog 71 #[.pointer (some ⟨g, 0, none⟩), .int .i64 k] w fun e w' => ∃ A' c', e = .returned (.tuple #[.agg #[.int .i64 ps[k].f, .int .i64 ps[k].t, .slice A' ps[k].bs.length c'], .bool true]) ∧ Fresh w w' A' ps[k].bs ∧ Netted w w' base g A ps (butAt ps k) lost := by
  have hc1 : Chg (fun _ => False) w (w.alloc (.cells #[.int .i64 0, .int .i64 0, .slice none 0 0] 69)) := (Chg.refl _ _).alloc _
  have h1 := h.keep hc1 (fun x hx => hx.elim)
  have b1 := BoxPk.new w 0 0 (.slice none 0 0)
  have hpk := peek_yes _ base g c A ps lost h1 k hk hn hbs
  have hgl := h.lt
  have hAl : ∀ x, In A x → x < w.heap.size := fun x hx => (own_lt h.row hx).2
  have hsub := butAt_sub (ps := ps) (k := k)
  have hblen := butAt_len hk
  obtain ⟨p, hp⟩ : ∃ p, p = ps[k] := ⟨_, rfl⟩
  rw [← hp] at hpk hbs ⊢
  clear hp
  have hwk : IntKind.i64.wrap ((k : Int) + 1) = (k : Int) + 1 := IntWalk.i64_in _ (by omega)
  have HSUB := Lib.hid hsub
  have HB := Lib.hid hblen
  clear hsub hblen
  go_enter Try.func71, Try.ntmps71
  go_wp2_with (first
    | (go_at_call 72; go_must (refine hpk.mono ?_; rintro e w2 ⟨A2, c2, rfl, hf2, hc2⟩; have b3 := BoxPk.new w2 p.f p.t (.slice A2 p.bs.length c2); have h3 := (h1.keep hc2 (fun x hx => hx.elim)).keep (S := fun _ => False) ((Chg.refl _ _).alloc (.cells #[.int .i64 p.f, .int .i64 p.t, .slice A2 p.bs.length c2] 69)) (fun x hx => hx.elim); have n0 := h3.c0; have z0 := h3.fz 0; have bb3 : BoxPk (w2.alloc (.cells #[.int .i64 p.f, .int .i64 p.t, .slice A2 p.bs.length c2] 69)) w.heap.size 0 0 (.slice none 0 0) := (b1.keep hc2 (fun h => h)).keep (S := fun _ => False) ((Chg.refl _ _).alloc _) (fun h => h); have sz2 : w.heap.size + 1 ≤ w2.heap.size := (by have := hc2.size; simpa using this)))
    | (go_at_call 109; go_must (have hdel := delete_any A c k (k + 1) ps base _ h3.row hk rfl hn; rw [show (((k + 1 : Nat) : Int)) = (k : Int) + 1 by omega] at hdel; refine hdel.mono ?_; rintro e w4 ⟨rfl, ho4, hc4⟩; have n1 := hc4.cell_some n0 h3.far; have z1 : w4.frozen? ⟨g, 0, none⟩ = false := (by rw [hc4.frozen (p := ⟨g, 0, none⟩) h3.lt h3.far]; exact z0); have b4 := b3.keep hc4 (fun hi => by have := hAl _ hi; omega); have bb4 := bb3.keep hc4 (fun hi => by have := hAl _ hi; omega); have hcS : Chg (fun x => x = g) w4 (w4.setCell ⟨g, 0, none⟩ (.slice A (ps.length - 1) c)) := (Chg.refl (fun x => x = g) w4).setCell (p := ⟨g, 0, none⟩) (.inl (rfl : g = g)) _; have b5 := b4.keep hcS (by omega); have bb5 := bb4.keep hcS (by omega); have q0 := b5.c0; have q1 := b5.c1; have q2 := b5.c2; have y0 := bb5.c0; have y1 := bb5.c1; have y2 := bb5.c2; have x0 := bb5.fz 0; have x1 := bb5.fz 1; have x2 := bb5.fz 2)))
  obtain ⟨h5, hc5⟩ := NetAt.less (ps' := butAt ps k) h HSUB.out HB.out ho4 ((hc1.trans hc2 (fun x hx => hx.elim)).alloc _) hc4
  (try simp only [Exit.inBlock, Exit.then])
  refine bodyPost_ret (results_cell_row_tmp rfl _ _ w.heap.size _ _ _ _ rfl (BoxPk.set3 bb5 p.f p.t (.slice A2 p.bs.length c2)) Try.underlying69 rfl pkSize) rfl ?_
  have hcB : Chg (fun x => x = w.heap.size) (w4.setCell ⟨g, 0, none⟩ (.slice A (ps.length - 1) c)) ((((w4.setCell ⟨g, 0, none⟩ (.slice A (ps.length - 1) c)).setCell ⟨w.heap.size, 0, none⟩ (.int .i64 p.f)).setCell ⟨w.heap.size, 1, none⟩ (.int .i64 p.t)).setCell ⟨w.heap.size, 2, none⟩ (.slice A2 p.bs.length c2)) :=
    (((Chg.refl (fun x => x = w.heap.size) _).setCell (p := ⟨w.heap.size, 0, none⟩) (.inl rfl) _).setCell (p := ⟨w.heap.size, 1, none⟩) (.inl rfl) _).setCell (p := ⟨w.heap.size, 2, none⟩) (.inl rfl) _
  have hA2 : p.bs ≠ [] → ∀ x, blk A2 = some x → w.heap.size + 1 ≤ x ∧ x < w2.heap.size := fun hne x hx => by
    have h3 := hf2.2 hne x hx
    simp at h3
    omega
  have hsz4 : w2.heap.size ≤ (w4.setCell ⟨g, 0, none⟩ (.slice A (ps.length - 1) c)).heap.size := by
    have e1 := hc4.size
    have e2 := hcS.size
    simp only [World.alloc, Array.size_push] at e1
    omega
  refine ⟨A2, c2, rfl, ⟨?_, fun hne x hx => ?_⟩, A, c, h5.keep hcB (fun x hx => ⟨?_, ?_⟩), hc5.trans hcB (fun x hx => .inr (by omega)), fun x hx => .inl hx, fun x hx => .inl ?_⟩
  · refine (((hf2.1.alloc _).keep' hc4 (fun hne x hx hs => ?_)).keep' hcS (fun hne x hx hs => ?_)).keep' hcB (fun hne x hx hs => ?_)
    · have h3 := (hA2 (by rintro e; rw [e] at hne; exact hne rfl) x hx).1
      have h4 := hAl x hs
      omega
    · have h3 := (hA2 (by rintro e; rw [e] at hne; exact hne rfl) x hx).1
      omega
    · have h3 := (hA2 (by rintro e; rw [e] at hne; exact hne rfl) x hx).1
      omega
  · have h3 := hA2 hne x hx
    have h4 := hcB.size
    exact ⟨by omega, by omega⟩
  · rintro (h6 | h6)
    · omega
    · have := hAl x h6; omega
  · rintro ⟨q, hq, hne, h6⟩
    have h7 := (h.rds q (HSUB.out q hq)).old (by simpa using hne) x h6
    omega
  · obtain ⟨q, hq, hne, h6⟩ := hx
    exact ⟨q, HSUB.out q hq, hne, h6⟩

set_option maxHeartbeats 1000000 in
set_option maxRecDepth 20000 in
theorem double_yes (w : World) (base g c : Nat) (A : Option Addr) (ps : List Pk) (lost : Int) (h : NetAt w base g A c ps lost) (k : Nat) (hk : k < ps.length) (hroom : ps.length < 500) (hbs : ps[k].bs.length ≤ 140737488355328) (hbase : base ≤ w.heap.size) :
    Calls Try.prog 79 #[.pointer (some ⟨g, 0, none⟩), .int .i64 k] w fun e w' => e = .returned (.bool true) ∧ ∃ p : Pk, p.v = ps[k].v ∧ Netted w w' base g A ps (ps ++ [p]) lost := by
  have hp := h.rds ps[k] (List.getElem_mem _)
  obtain ⟨p0, p1, p2⟩ := pkC_get ps k hk
  obtain ⟨b, o, rfl, _⟩ := h.rd.at_ (k := 0) (by rw [pkC_len]; omega)
  have r0 := h.rd.cells rfl _ _ p0
  have r1 := h.rd.cells rfl _ _ p1
  have r2 := h.rd.cells rfl _ _ p2
  rw [← Nat.add_assoc] at r1 r2
  obtain ⟨p, hpk⟩ : ∃ p, p = ps[k] := ⟨_, rfl⟩
  rw [← hpk] at r0 r1 r2 hp hbs ⊢
  clear p0 p1 p2 hpk
  have hput := put_yes w base g c _ ps lost h p.f p.t p.A p.bs.length p.c p.bs hp rfl hbs hroom hbase
  have c0 := h.c0
  have hky : (decide (0 ≤ (k : Int)) && decide ((k : Int) < (ps.length : Int))) = true := by simp; omega
  have k0 : (0 : Int) ≤ (k : Int) := by omega
  have k1 : (k : Int) < (ps.length : Int) := by omega
  have k2 : ¬ (500 : Int) ≤ (ps.length : Int) := by omega
  go_enter Try.func79, Try.ntmps79
  go_wp2_with (first
    | (go_at_call 110; go_must (refine (netIs_any _ base g c _ ps lost (k : Int) h).mono ?_; rintro e w' ⟨rfl, rfl⟩; rw [hky]))
    | (go_at_call 69; go_must (refine hput.mono ?_; rintro e w2 ⟨rfl, hres⟩)))
  go_ret
  exact ⟨rfl, hres⟩
theorem double_no (w : World) (base g c : Nat) (A : Option Addr) (ps : List Pk) (lost : Int) (h : NetAt w base g A c ps lost) (k : Int) (hk : k < 0 ∨ ps.length ≤ k ∨ 500 ≤ ps.length) :
    Calls Try.prog 79 #[.pointer (some ⟨g, 0, none⟩), .int .i64 k] w fun e w' => e = .returned (.bool false) ∧ w = w' := by
  have c0 := h.c0
  by_cases hin : 0 ≤ k ∧ k < ps.length
  · have hky : (decide (0 ≤ k) && decide (k < (ps.length : Int))) = true := by simp; omega
    have k2 : (500 : Int) ≤ (ps.length : Int) := by omega
    go_enter Try.func79, Try.ntmps79
    go_wp2_with (go_at_call 110; go_must (refine (netIs_any _ base g c A ps lost k h).mono ?_; rintro e w' ⟨rfl, rfl⟩; rw [hky]))
    go_ret
    exact ⟨rfl, rfl⟩
  · have hky : (decide (0 ≤ k) && decide (k < (ps.length : Int))) = false := by simp; omega
    go_enter Try.func79, Try.ntmps79
    go_wp2_with (go_at_call 110; go_must (refine (netIs_any _ base g c A ps lost k h).mono ?_; rintro e w' ⟨rfl, rfl⟩; rw [hky]))
    go_ret
    exact ⟨rfl, rfl⟩
end Go.Proofs.Ytngfimjbgopgjaa
