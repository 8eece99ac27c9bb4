/- Contract of net.Peek, told sharper: the copy's bytes are a row of the call's own. -/
import Derived.Test.YtngfimjbgopgjaaNetOps
namespace Go.Proofs.Ytngfimjbgopgjaa
open Go.RowKit
set_option linter.unusedVariables false

theorem own_mono {w : World} {base base' : Nat} {e : TypeId} {size : Nat} {v : Value} {n : Nat} {xs : List Value} (h : w.ownsRow base e size v n xs) (hb : base' ≤ base) : w.ownsRow base' e size v n xs := by
  refine ⟨h.1, ?_⟩
  rcases h.2 with h | ⟨g, cap, cur, h1, h2, h3⟩
  · exact .inl h
  · exact .inr ⟨g, cap, cur, h1, Nat.le_trans hb h2, h3⟩

set_option maxHeartbeats 1000000 in
set_option maxRecDepth 20000 in
theorem cloneB_own (A : Option Addr) (n c : Nat) (bs : List Int) (w : World) (h : Rd w A (bs.map (Value.int .u8))) (hn : bs.length = n) (hn2 : n ≤ 140737488355328) :
    Calls Try.prog 118 #[.slice A n c] w fun e w' => ∃ A' c', e = .returned (.slice A' n c') ∧ w'.ownsRow w.heap.size 5 1 (.slice A' n c') n (bs.map (Value.int .u8)) ∧ Chg (fun _ => False) w w' := by
  subst hn
  obtain ⟨i0, hi, hz0, hz1, hz2⟩ := info_parts byteInfo
  have q : ∀ (w : World) (a : Option Addr) (n c n' c' : Nat), (binOp .eql 34 (.slice a n c) (.slice none n' c')).run Try.prog w = .ok (.bool a.isNone) w := fun w a n c n' c' => Lib.run_eql_slice_nil w _ _ a n c n' c' Try.underlying34
  have hl1 : 0 + bs.length ≤ maxLen := by simp only [maxLen]; omega
  have hl2 : (0 + bs.length) * 1 ≤ 140737488355328 := by omega
  have hmade : (w.alloc (.cells #[] 5)).ownsRow w.heap.size 5 1 (.slice (some ⟨w.heap.size, 0, none⟩) 0 0) 0 [] := World.ownsRow_made w #[] 0 (Nat.le_refl _) (by decide) rfl
  rcases A with _ | ad
  · have hl : bs = [] := by
      rcases h with h | ⟨b, o, e, _⟩
      · rcases bs with _ | ⟨x, l⟩
        · rfl
        · cases h
      · cases e
    subst hl
    go_enter Try.func118, Try.ntmps118
    go_wp2_with fail
    go_ret
    exact ⟨none, 0, rfl, World.ownsRow_nil _ _ _ _, Chg.refl _ _⟩
  · go_enter Try.func118, Try.ntmps118
    go_wp2_with (at_builtin; refine wpList_append_rd _ rfl (.tmp 5) (.tmp 6) 34 rfl w.heap.size 5 i0 _ 1 1 Try.underlying34 hi hz0 hz1 hz2 rfl (by decide) (some ⟨w.heap.size, 0, none⟩) 0 0 [] rfl hmade (some ad) bs.length c (bs.map (Value.int .u8)) rfl (by simp) (Rd.alloc h _) (u8s_one _) hl1 hl2 (by simp) ?_; intro A2 c2 w2 hown2 hg2 hb2)
    go_ret
    simp only [Nat.zero_add, List.nil_append] at hown2
    exact ⟨A2, c2, by simp, hown2, ((Chg.refl _ w).alloc _).trans hg2 (by intro x hx; cases hx; exact .inr (Nat.le_refl _))⟩

set_option maxHeartbeats 1000000 in
set_option maxRecDepth 20000 in
theorem copied_own (f t : Int) (A : Option Addr) (n c : Nat) (bs : List Int) (w : World) (h : Rd w A (bs.map (Value.int .u8))) (hn : bs.length = n) (hn2 : n ≤ 140737488355328) :
    Calls Try.prog 108 #[.agg #[.int .i64 f, .int .i64 t, .slice A n c]] w fun e w' => ∃ A' c', e = .returned (.agg #[.int .i64 f, .int .i64 t, .slice A' n c']) ∧ w'.ownsRow w.heap.size 5 1 (.slice A' n c') n (bs.map (Value.int .u8)) ∧ Chg (fun _ => False) w w' := by
  have hr1 : Rd ((w.alloc (.cells #[.int .i64 f, .int .i64 t, .slice A n c] 69)).alloc (.cells #[.int .i64 0, .int .i64 0, .slice none 0 0] 69)) A (bs.map (Value.int .u8)) := (h.alloc _).alloc _
  have b1 : BoxPk ((w.alloc (.cells #[.int .i64 f, .int .i64 t, .slice A n c] 69)).alloc (.cells #[.int .i64 0, .int .i64 0, .slice none 0 0] 69)) w.heap.size f t (.slice A n c) := (BoxPk.new w f t _).keep (S := fun _ => False) ((Chg.refl _ _).alloc _) (fun h => h)
  have b2 : BoxPk ((w.alloc (.cells #[.int .i64 f, .int .i64 t, .slice A n c] 69)).alloc (.cells #[.int .i64 0, .int .i64 0, .slice none 0 0] 69)) (w.heap.size + 1) 0 0 (.slice none 0 0) := by
    have := BoxPk.new (w.alloc (.cells #[.int .i64 f, .int .i64 t, .slice A n c] 69)) 0 0 (.slice none 0 0)
    simpa using this
  have hc0 : Chg (fun _ => False) w ((w.alloc (.cells #[.int .i64 f, .int .i64 t, .slice A n c] 69)).alloc (.cells #[.int .i64 0, .int .i64 0, .slice none 0 0] 69)) := ((Chg.refl _ _).alloc _).alloc _
  go_enter Try.func108, Try.ntmps108
  go_wp2_with (go_at_call 118; go_must (refine (cloneB_own A n c bs _ hr1 hn hn2).mono ?_; rintro e w3 ⟨A3, c3, rfl, hf3, hc3⟩; replace b1 := b1.keep hc3 (fun h => h); replace b2 := b2.keep hc3 (fun h => h); have q0 := b1.c0; have q1 := b1.c1; have q2 := b1.c2; have z0 := b1.fz 0; have z1 := b1.fz 1; have z2 := b1.fz 2; have r0 := b2.c0; have r1 := b2.c1; have r2 := b2.c2; have y0 := b2.fz 0; have y1 := b2.fz 1; have y2 := b2.fz 2))
  have b3 : BoxPk (w3.setCell ⟨w.heap.size, 2, none⟩ (.slice A3 n c3)) (w.heap.size + 1) 0 0 (.slice none 0 0) := b2.keep (S := fun x => x = w.heap.size) ((Chg.refl (fun x => x = w.heap.size) w3).setCell (p := ⟨w.heap.size, 2, none⟩) (.inl (rfl : w.heap.size = w.heap.size)) _) (by omega)
  have hcA : Chg (fun _ => False) w w3 := hc0.trans hc3 (fun x hx => hx.elim)
  have hcB : ∀ (u : Value), Chg (fun x => x = w.heap.size ∨ x = w.heap.size + 1) w3 ((((w3.setCell ⟨w.heap.size, 2, none⟩ (.slice A3 n c3)).setCell ⟨w.heap.size + 1, 0, none⟩ (.int .i64 f)).setCell ⟨w.heap.size + 1, 1, none⟩ (.int .i64 t)).setCell ⟨w.heap.size + 1, 2, none⟩ (.slice A3 n c3)) := fun u =>
    ((((Chg.refl (fun x => x = w.heap.size ∨ x = w.heap.size + 1) w3).setCell (p := ⟨w.heap.size, 2, none⟩) (.inl (.inl rfl)) _).setCell (p := ⟨w.heap.size + 1, 0, none⟩) (.inl (.inr rfl)) _).setCell (p := ⟨w.heap.size + 1, 1, none⟩) (.inl (.inr rfl)) _).setCell (p := ⟨w.heap.size + 1, 2, none⟩) (.inl (.inr rfl)) _
  (try simp only [Exit.inBlock, Exit.then])
  refine bodyPost_ret (results_cell_row rfl _ _ (w.heap.size + 1) _ _ _ _ rfl (BoxPk.set3 b3 f t (.slice A3 n c3)) Try.underlying69 rfl pkSize) rfl ?_
  have hout : Off (fun x => x = w.heap.size ∨ x = w.heap.size + 1) A3 := fun x hx hs => by
    have h1 := (own_lt hf3 hx).1
    simp at h1
    omega
  exact ⟨A3, c3, rfl, (hcB (.int .i64 0)).ownS (own_mono hf3 (by simp; omega)) hout, hcA.trans (hcB (.int .i64 0)) (fun x hx => .inr (by omega))⟩

set_option maxHeartbeats 1000000 in
set_option maxRecDepth 20000 in
/-- What Peek gives of a packet that is there: its copy. -/
theorem peek_own (w : World) (base g c : Nat) (A : Option Addr) (ps : List Pk) (lost : Int) (h : NetAt w base g A c ps lost) (k : Nat) (hk : k < ps.length) (hn : ps.length ≤ 1000) (hbs : ps[k].bs.length ≤ 140737488355328) :
    Calls Try.prog 72 #[.pointer (some ⟨g, 0, none⟩), .int .i64 k] w fun e w' => ∃ A' c', e = .returned (.tuple #[.agg #[.int .i64 ps[k].f, .int .i64 ps[k].t, .slice A' ps[k].bs.length c'], .bool true]) ∧ w'.ownsRow w.heap.size 5 1 (.slice A' ps[k].bs.length c') ps[k].bs.length (ps[k].bs.map (Value.int .u8)) ∧ Chg (fun _ => False) w w' := by
  have hc1 : Chg (fun _ => False) w (w.alloc (.cells #[.int .i64 0, .int .i64 0, .slice none 0 0] 69)) := (Chg.refl _ _).alloc _
  have h1 := h.keep hc1 (fun x hx => hx.elim)
  have b1 := BoxPk.new w 0 0 (.slice none 0 0)
  have hp := h.rds ps[k] (List.getElem_mem _)
  obtain ⟨b, o, rfl, _⟩ := h1.rd.at_ (k := 0) (by rw [pkC_len]; omega)
  obtain ⟨p0, p1, p2⟩ := pkC_get ps k hk
  have r0 := h1.rd.cells rfl _ _ p0
  have r1 := h1.rd.cells rfl _ _ p1
  have r2 := h1.rd.cells rfl _ _ p2
  rw [← Nat.add_assoc] at r1 r2
  obtain ⟨p, hpk⟩ : ∃ p, p = ps[k] := ⟨_, rfl⟩
  rw [← hpk] at r0 r1 r2 hp hbs ⊢
  clear p0 p1 p2 hpk
  have hp1 := hp.alloc (.cells #[.int .i64 0, .int .i64 0, .slice none 0 0] 69)
  have c0 := h1.c0
  have hky : (decide (0 ≤ (k : Int)) && decide ((k : Int) < (ps.length : Int))) = true := by simp; omega
  have k0 : (0 : Int) ≤ (k : Int) := by omega
  have k1 : (k : Int) < (ps.length : Int) := by omega
  go_enter Try.func72, Try.ntmps72
  go_wp2_with (first
    | (go_at_call 110; go_must (refine (netIs_any _ base g c _ ps lost (k : Int) h1).mono ?_; rintro e w' ⟨rfl, rfl⟩; rw [hky]))
    | (go_at_call 108; go_must (refine (copied_own p.f p.t p.A p.bs.length p.c p.bs _ hp1 rfl hbs).mono ?_; rintro e w2 ⟨A2, c2, rfl, hf2, hc2⟩; have b2 := b1.keep hc2 (fun h => h); have q0 := b2.c0; have q1 := b2.c1; have q2 := b2.c2; have z0 := b2.fz 0; have z1 := b2.fz 1; have z2 := b2.fz 2)))
  (try simp only [Exit.inBlock, Exit.then])
  refine bodyPost_ret (results_cell_row_tmp rfl _ _ w.heap.size _ _ _ _ rfl (BoxPk.set3 b2 p.f p.t (.slice A2 p.bs.length c2)) Try.underlying69 rfl pkSize) rfl ?_
  have hcB : Chg (fun x => x = w.heap.size) w2 (((w2.setCell ⟨w.heap.size, 0, none⟩ (.int .i64 p.f)).setCell ⟨w.heap.size, 1, none⟩ (.int .i64 p.t)).setCell ⟨w.heap.size, 2, none⟩ (.slice A2 p.bs.length c2)) :=
    (((Chg.refl (fun x => x = w.heap.size) w2).setCell (p := ⟨w.heap.size, 0, none⟩) (.inl rfl) _).setCell (p := ⟨w.heap.size, 1, none⟩) (.inl rfl) _).setCell (p := ⟨w.heap.size, 2, none⟩) (.inl rfl) _
  have hcA : Chg (fun _ => False) w w2 := hc1.trans hc2 (fun x hx => hx.elim)
  exact ⟨A2, c2, rfl, hcB.ownS (own_mono hf2 hc1.size) (fun x hx hs => by
    have h3 := (own_lt hf2 hx).1
    simp at h3
    omega), hcA.trans hcB (fun x hx => .inr (by omega))⟩
end Go.Proofs.Ytngfimjbgopgjaa
