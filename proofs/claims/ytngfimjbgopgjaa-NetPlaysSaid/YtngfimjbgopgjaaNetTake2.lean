/- Contract of net.Take, told sharper: the packets lie where they lay. -/
import Derived.Test.YtngfimjbgopgjaaNetLose
namespace Go.Proofs.Ytngfimjbgopgjaa
open Go.RowKit
set_option linter.unusedVariables false

set_option maxHeartbeats 1000000 in
set_option maxRecDepth 20000 in
theorem take_yes2 (w : World) (base g c : Nat) (A : Option Addr) (ps : List Pk) (lost : Int) (h : NetAt w base g A c ps lost) (k : Nat) (hk : k < ps.length) (hn : ps.length ≤ 1000) (hbs : ps[k].bs.length ≤ 140737488355328) :
    Calls Try.prog 71 #[.pointer (some ⟨g, 0, none⟩), .int .i64 k] w fun e w' => ∃ A' c', e = .returned (.tuple #[.agg #[.int .i64 ps[k].f, .int .i64 ps[k].t, .slice A' ps[k].bs.length c'], .bool true]) ∧ Fresh w w' A' ps[k].bs ∧ NetAt w' base g A c (butAt ps k) lost ∧ Chg (nCore g A) w w' := by
  have hc1 : Chg (fun _ => False) w (w.alloc (.cells #[.int .i64 0, .int .i64 0, .slice none 0 0] 69)) := (Chg.refl _ _).alloc _
  have h1 := h.keep hc1 (fun x hx => hx.elim)
  have b1 := BoxPk.new w 0 0 (.slice none 0 0)
  have hpk := peek_yes _ base g c A ps lost h1 k hk hn hbs
  have hgl := h.lt
  have hAl : ∀ x, In A x → x < w.heap.size := fun x hx => (own_lt h.row hx).2
  have hsub := butAt_sub (ps := ps) (k := k)
  have hblen := butAt_len hk
  obtain ⟨p, hp⟩ : ∃ p, p = ps[k] := ⟨_, rfl⟩
  rw [← hp] at hpk hbs ⊢
  clear hp
  have hwk : IntKind.i64.wrap ((k : Int) + 1) = (k : Int) + 1 := IntWalk.i64_in _ (by omega)
  have HSUB := Lib.hid hsub
  have HB := Lib.hid hblen
  clear hsub hblen
  go_enter Try.func71, Try.ntmps71
  go_wp2_with (first
    | (go_at_call 72; go_must (refine hpk.mono ?_; rintro e w2 ⟨A2, c2, rfl, hf2, hc2⟩; have b3 := BoxPk.new w2 p.f p.t (.slice A2 p.bs.length c2); have h3 := (h1.keep hc2 (fun x hx => hx.elim)).keep (S := fun _ => False) ((Chg.refl _ _).alloc (.cells #[.int .i64 p.f, .int .i64 p.t, .slice A2 p.bs.length c2] 69)) (fun x hx => hx.elim); have n0 := h3.c0; have z0 := h3.fz 0; have bb3 : BoxPk (w2.alloc (.cells #[.int .i64 p.f, .int .i64 p.t, .slice A2 p.bs.length c2] 69)) w.heap.size 0 0 (.slice none 0 0) := (b1.keep hc2 (fun h => h)).keep (S := fun _ => False) ((Chg.refl _ _).alloc _) (fun h => h); have sz2 : w.heap.size + 1 ≤ w2.heap.size := (by have := hc2.size; simpa using this)))
    | (go_at_call 109; go_must (have hdel := delete_any A c k (k + 1) ps base _ h3.row hk rfl hn; rw [show (((k + 1 : Nat) : Int)) = (k : Int) + 1 by omega] at hdel; refine hdel.mono ?_; rintro e w4 ⟨rfl, ho4, hc4⟩; have n1 := hc4.cell_some n0 h3.far; have z1 : w4.frozen? ⟨g, 0, none⟩ = false := (by rw [hc4.frozen (p := ⟨g, 0, none⟩) h3.lt h3.far]; exact z0); have b4 := b3.keep hc4 (fun hi => by have := hAl _ hi; omega); have bb4 := bb3.keep hc4 (fun hi => by have := hAl _ hi; omega); have hcS : Chg (fun x => x = g) w4 (w4.setCell ⟨g, 0, none⟩ (.slice A (ps.length - 1) c)) := (Chg.refl (fun x => x = g) w4).setCell (p := ⟨g, 0, none⟩) (.inl (rfl : g = g)) _; have b5 := b4.keep hcS (by omega); have bb5 := bb4.keep hcS (by omega); have q0 := b5.c0; have q1 := b5.c1; have q2 := b5.c2; have y0 := bb5.c0; have y1 := bb5.c1; have y2 := bb5.c2; have x0 := bb5.fz 0; have x1 := bb5.fz 1; have x2 := bb5.fz 2)))
  obtain ⟨h5, hc5⟩ := NetAt.less (ps' := butAt ps k) h HSUB.out HB.out ho4 ((hc1.trans hc2 (fun x hx => hx.elim)).alloc _) hc4
  (try simp only [Exit.inBlock, Exit.then])
  refine bodyPost_ret (results_cell_row_tmp rfl _ _ w.heap.size _ _ _ _ rfl (BoxPk.set3 bb5 p.f p.t (.slice A2 p.bs.length c2)) Try.underlying69 rfl pkSize) rfl ?_
  have hcB : Chg (fun x => x = w.heap.size) (w4.setCell ⟨g, 0, none⟩ (.slice A (ps.length - 1) c)) ((((w4.setCell ⟨g, 0, none⟩ (.slice A (ps.length - 1) c)).setCell ⟨w.heap.size, 0, none⟩ (.int .i64 p.f)).setCell ⟨w.heap.size, 1, none⟩ (.int .i64 p.t)).setCell ⟨w.heap.size, 2, none⟩ (.slice A2 p.bs.length c2)) :=
    (((Chg.refl (fun x => x = w.heap.size) _).setCell (p := ⟨w.heap.size, 0, none⟩) (.inl rfl) _).setCell (p := ⟨w.heap.size, 1, none⟩) (.inl rfl) _).setCell (p := ⟨w.heap.size, 2, none⟩) (.inl rfl) _
  have hA2 : p.bs ≠ [] → ∀ x, blk A2 = some x → w.heap.size + 1 ≤ x ∧ x < w2.heap.size := fun hne x hx => by
    have h3 := hf2.2 hne x hx
    simp at h3
    omega
  have hsz4 : w2.heap.size ≤ (w4.setCell ⟨g, 0, none⟩ (.slice A (ps.length - 1) c)).heap.size := by
    have e1 := hc4.size
    have e2 := hcS.size
    simp only [World.alloc, Array.size_push] at e1
    omega
  refine ⟨A2, c2, rfl, ⟨?_, fun hne x hx => ?_⟩, h5.keep hcB (fun x hx => ⟨?_, ?_⟩), hc5.trans hcB (fun x hx => .inr (by omega))⟩
  · refine (((hf2.1.alloc _).keep' hc4 (fun hne x hx hs => ?_)).keep' hcS (fun hne x hx hs => ?_)).keep' hcB (fun hne x hx hs => ?_)
    · have h3 := (hA2 (by rintro e; rw [e] at hne; exact hne rfl) x hx).1
      have h4 := hAl x hs
      omega
    · have h3 := (hA2 (by rintro e; rw [e] at hne; exact hne rfl) x hx).1
      omega
    · have h3 := (hA2 (by rintro e; rw [e] at hne; exact hne rfl) x hx).1
      omega
  · have h3 := hA2 hne x hx
    have h4 := hcB.size
    exact ⟨by omega, by omega⟩
  · rintro (h6 | h6)
    · omega
    · have := hAl x h6; omega
  · rintro ⟨q, hq, hne, h6⟩
    have h7 := (h.rds q (HSUB.out q hq)).old (by simpa using hne) x h6
    omega
end Go.Proofs.Ytngfimjbgopgjaa
