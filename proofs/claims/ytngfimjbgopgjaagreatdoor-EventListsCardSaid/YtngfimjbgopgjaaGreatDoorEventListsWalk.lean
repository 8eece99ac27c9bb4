/- EventLists: the walk of cutoverlaw10.EventLists (gen_lists.py). -/
import Derived.Test.YtngfimjbgopgjaaGreatDoorStPlay
import Derived.Test.YtngfimjbgopgjaaGreatDoorEvReadSub
import Derived.Test.YtngfimjbgopgjaaGreatDoorEvSame
import Derived.Test.YtngfimjbgopgjaaGreatDoorRfListAll
import Derived.Deep.RegionHeld3
namespace Go.Proofs.YtngfimjbgopgjaaGreatDoor.eventLists
open Go.RowKit
set_option linter.unusedVariables false

theorem one_s (x : RawV) (w : World) (h : RawOk w x) (hN : NamesAt w 0) : Calls Tryz.prog 6 #[.agg #[.int .i64 x.id, .int .i64 x.ver, .int .i64 x.tm, .int .i64 x.ty, .int .i64 x.node, .int .i64 x.m, .int .i64 x.name, .int .i64 x.defs, .int .i64 x.how, .slice x.A x.n x.c, .slice x.L x.ln x.lc]] w fun e w' => ∃ f : EvF, e = .returned f.val ∧ EvS w' f ∧ EvOff (fun x => x ≤ w.heap.size) f ∧ Chg (fun _ => False) w w' :=
  (one_any x w h hN).mono fun e w' ⟨f, he, hE, hc⟩ => ⟨f, he, ⟨hE.rdy, hE.byt⟩, ⟨fun _ x hx hs => by have := hE.offA x hx; omega, fun _ x hx hs => by have := hE.offD x hx; omega, fun d hd _ x hx hs => by have := hE.offN d hd x hx; omega⟩, hc⟩

theorem tells_as {P : Prop} {pb : Bool} {w w' : World} {e : Ending} (h : Tells2 P w e w') (hp : pb = true ↔ P) : e = .returned (.bool pb) ∧ Chg (fun _ => False) w w' := by
  obtain ⟨⟨b, he, hb⟩, hc⟩ := h
  have e1 : b = pb := by
    cases b <;> cases pb
    · rfl
    · exact absurd (hb.2 (hp.1 rfl)) (by decide)
    · exact absurd (hp.2 (hb.1 rfl)) (by decide)
    · rfl
  rw [← e1]
  exact ⟨he, hc⟩
theorem xor_byt (a b : Int) : 0 ≤ bits .xor .u8 a b ∧ bits .xor .u8 a b ≤ 255 := by
  have h : ∀ n : Int, 0 ≤ IntKind.u8.wrap n ∧ IntKind.u8.wrap n ≤ 255 := fun n => by
    simp [IntKind.wrap, IntKind.bits, IntKind.signed]
    omega
  exact h _
theorem ReadAllGave.no {w w' : World} {xs : List Int} {e : Ending} (h : ReadAllGave w xs e w') (hn : ¬ ∃ vs, Good vs ∧ allB vs = xs) : e = .returned (.tuple #[.slice none 0 0, .int .i64 5]) ∧ Chg (fun _ => False) w w' := by
  obtain ⟨h1, hc⟩ := h
  rcases h1 with ⟨A, c, l, h1, h2, h3, h4⟩ | h1
  · exact absurd ⟨_, h3.v, h4⟩ hn
  · exact ⟨h1.1, hc⟩
theorem made_at {w0 w : World} (h : w0.heap.size ≤ w.heap.size) : (w.alloc (.cells #[] 32)).ownsRow w0.heap.size 32 9 (.slice (some ⟨w.heap.size, 0, none⟩) 0 0) 0 [] := by
  obtain ⟨h1, h2⟩ := World.ownsRow_made w (e := 32) (size := 9) #[] 0 (Nat.le_refl _) (by decide) rfl
  rcases h2 with ⟨h2, _⟩ | ⟨g, cap, cur, hv, hb, hr⟩
  · cases h2
  · exact ⟨h1, .inr ⟨g, cap, cur, hv, Nat.le_trans h hb, hr⟩⟩

set_option maxHeartbeats 8000000 in
set_option maxRecDepth 20000 in
theorem walk (w : World) (T : Option Addr) (sn sc : Nat) (hS : RSteps w T sn sc) (D : Option Addr) (dn dc : Nat) (hD : RawDs w D dn dc) (x : RawV) (hx : RawOk w x) (put : Int) (hput : (Lit.int .i64 put).wf = true) (at_ : Int) (hat : (Lit.int .i64 at_).wf = true) (by_ : Int) (hby : (Lit.int .u8 by_).wf = true) (how : Int) (hhow : (Lit.int .i64 how).wf = true) (hN : NamesAt w 0) :
    Calls Tryz.prog 3 #[.slice T sn sc, .slice D dn dc, x.val, .int .i64 put, .int .i64 at_, .int .u8 by_, .int .i64 how] w (SaysTrue w) := by
  have HX := Lib.hid hx
  have HN := Lib.hid hN
  have HS := Lib.hid hS
  have HD := Lib.hid hD
  clear hx hN hS hD hput hat hby hhow
  unfold RawV.val
  obtain ⟨w1, hw1⟩ : ∃ w1, w1 = w.alloc (.cells #[.int .i64 x.id, .int .i64 x.ver, .int .i64 x.tm, .int .i64 x.ty, .int .i64 x.node, .int .i64 x.m, .int .i64 x.name, .int .i64 x.defs, .int .i64 x.how, .slice x.A x.n x.c, .slice x.L x.ln x.lc] 26) := ⟨_, rfl⟩
  have bx : BoxAt w1 w.heap.size 26 #[.int .i64 x.id, .int .i64 x.ver, .int .i64 x.tm, .int .i64 x.ty, .int .i64 x.node, .int .i64 x.m, .int .i64 x.name, .int .i64 x.defs, .int .i64 x.how, .slice x.A x.n x.c, .slice x.L x.ln x.lc] := by rw [hw1]; exact BoxAt.new w _ _
  have hc1 : Chg (fun _ => False) w w1 := by rw [hw1]; exact (Chg.refl _ _).alloc _
  go_enter Tryz.func3, Tryz.ntmps3
  go_upto_region 1 with fail
  rw [← hw1]
  clear hw1
  obtain ⟨gx, hgx⟩ : ∃ gx, gx = w.heap.size := ⟨_, rfl⟩
  rw [← hgx] at bx ⊢
  clear hgx
  have hbr := branch_any T sn sc D dn dc w1 (HS.out.still hc1) (HD.out.still hc1) (HN.out.keep hc1 (fun h => h))
  go_upto_region 2 with (go_at_call 4; (with_reducible refine hbr.mono ?_); rintro e w2 ⟨A, c, l, b, rfl, hL, hch⟩; have HL := Lib.hid hL; have HCH := Lib.hid hch; clear hL hch)
  have hl200 := HCH.out.good.1
  have hc2 := hc1.trans HL.out.chg (fun x hx => hx.elim)
  have bx2 := bx.keep HL.out.chg (fun h => h)
  clear hbr bx HS HD
  go_cut [31] from 29 to 30 (fun v w' => (∃ b : Bool, v = .bool b) ∧ w' = w2)
  case first =>
    go_wp2_with fail
    go_meet
    exact ⟨⟨_, rfl⟩, rfl⟩
  obtain ⟨⟨bp, rfl⟩, rfl⟩ := hcut
  obtain ⟨n, hn⟩ : ∃ n, n = l.length := ⟨_, rfl⟩
  have HNN := Lib.hid hn
  rw [← hn] at hl200 ⊢
  clear hn
  go_upto_if 31 with fail
  obtain ⟨w3, hw3⟩ : ∃ w3, w3 = wc := ⟨_, rfl⟩
  rw [← hw3] at HL bx2 hc2 ⊢
  clear hw3
  go_cut [15, 16] from 32 to 49 (fun v _ w' => ∃ (A' : Option Addr) (c' : Nat) (l' : List EvF), v = .slice A' l'.length c' ∧ l'.length ≤ 1048576 ∧ RdEv w' A' l' ∧ Chg (fun _ => False) w3 w')
  case first =>
    cases bp
    · go_wp2_with fail
      go_meet
      exact ⟨A, c, l, by rw [HNN.out], by rw [← HNN.out]; omega, HL.out.rd, Chg.refl _ _⟩
    have e1 : IntKind.i64.wrap ((n : Int) + 1) = (n : Int) + 1 := IntWalk.i64_in _ (by omega)
    go_upto_region 4 with (go_at_call 5; (with_reducible refine (pick_nat _ _ _ (by omega) (by omega)).mono ?_); rintro e w' ⟨k, hk, rfl, rfl⟩)
    have HNX := Lib.hid (HN.out.keep hc2 (fun h => h))
    have HXX := Lib.hid (HX.out.still hc2)
    obtain ⟨i0, hi, hz0, hz1, hz2⟩ := info_parts evInfo
    have HONE := Lib.hid (fun (w' : World) (hw : Chg (fun _ => False) w3 w') => one_s x w' (HXX.out.still hw) (HNX.out.keep hw (fun h => h)))
    have k0 : Chg (fun _ => False) w3 w3.drew := (Chg.refl _ _).drew
    have q0 : w3.cell? ⟨gx, 0, none⟩ = some (.int .i64 x.id) := bx2.cell 0 rfl
    have q1 : w3.cell? ⟨gx, 1, none⟩ = some (.int .i64 x.ver) := bx2.cell 1 rfl
    have q2 : w3.cell? ⟨gx, 2, none⟩ = some (.int .i64 x.tm) := bx2.cell 2 rfl
    have q3 : w3.cell? ⟨gx, 3, none⟩ = some (.int .i64 x.ty) := bx2.cell 3 rfl
    have q4 : w3.cell? ⟨gx, 4, none⟩ = some (.int .i64 x.node) := bx2.cell 4 rfl
    have q5 : w3.cell? ⟨gx, 5, none⟩ = some (.int .i64 x.m) := bx2.cell 5 rfl
    have q6 : w3.cell? ⟨gx, 6, none⟩ = some (.int .i64 x.name) := bx2.cell 6 rfl
    have q7 : w3.cell? ⟨gx, 7, none⟩ = some (.int .i64 x.defs) := bx2.cell 7 rfl
    have q8 : w3.cell? ⟨gx, 8, none⟩ = some (.int .i64 x.how) := bx2.cell 8 rfl
    have q9 : w3.cell? ⟨gx, 9, none⟩ = some (.slice x.A x.n x.c) := bx2.cell 9 rfl
    have q10 : w3.cell? ⟨gx, 10, none⟩ = some (.slice x.L x.ln x.lc) := bx2.cell 10 rfl
    have hcell : ∀ w', Chg (fun _ => False) w3 w' → (w'.cell? ⟨gx, 0, none⟩ = some (.int .i64 x.id) ∧ w'.cell? ⟨gx, 1, none⟩ = some (.int .i64 x.ver) ∧ w'.cell? ⟨gx, 2, none⟩ = some (.int .i64 x.tm) ∧ w'.cell? ⟨gx, 3, none⟩ = some (.int .i64 x.ty) ∧ w'.cell? ⟨gx, 4, none⟩ = some (.int .i64 x.node) ∧ w'.cell? ⟨gx, 5, none⟩ = some (.int .i64 x.m) ∧ w'.cell? ⟨gx, 6, none⟩ = some (.int .i64 x.name) ∧ w'.cell? ⟨gx, 7, none⟩ = some (.int .i64 x.defs) ∧ w'.cell? ⟨gx, 8, none⟩ = some (.int .i64 x.how) ∧ w'.cell? ⟨gx, 9, none⟩ = some (.slice x.A x.n x.c) ∧ w'.cell? ⟨gx, 10, none⟩ = some (.slice x.L x.ln x.lc)) := fun w' hw => have h := bx2.keep hw (fun h => h); ⟨h.cell 0 rfl, h.cell 1 rfl, h.cell 2 rfl, h.cell 3 rfl, h.cell 4 rfl, h.cell 5 rfl, h.cell 6 rfl, h.cell 7 rfl, h.cell 8 rfl, h.cell 9 rfl, h.cell 10 rfl⟩
    have HCELL := Lib.hid hcell
    clear hcell
    have HEV3 := Lib.hid (fun (f : EvF) (hf : f ∈ l) => HL.out.ev f hf)
    rcases own_at HL.out with ⟨rfl, rfl, rfl⟩ | ⟨g, rfl, hlc⟩
    · obtain rfl : n = 0 := HNN.out
      obtain rfl : k = 0 := by omega
      have HTL := Lib.hid (show (eoC ([] : List EvF)).length = 0 * 9 from rfl)
      have HRL := Lib.hid (show (eoC ([] : List EvF)).length = 0 * 9 from rfl)
      have HRT := Lib.hid (fun (w' : World) (_ : Chg (fun _ => False) w3 w') => Rd.nil w' (none))
      have HRR := HRT
      have hl3 : 0 + 1 ≤ maxLen := by decide
      have hl4 : (0 + 1) * 112 ≤ 140737488355328 := by decide
      have hl5 : 0 + 1 + 0 ≤ maxLen := by decide
      have hl6 : (0 + 1 + 0) * 112 ≤ 140737488355328 := by decide
      go_region_held3 (fun w' => w'.cell? ⟨gx, 0, none⟩ = some (.int .i64 x.id) ∧ w'.cell? ⟨gx, 1, none⟩ = some (.int .i64 x.ver) ∧ w'.cell? ⟨gx, 2, none⟩ = some (.int .i64 x.tm) ∧ w'.cell? ⟨gx, 3, none⟩ = some (.int .i64 x.ty) ∧ w'.cell? ⟨gx, 4, none⟩ = some (.int .i64 x.node) ∧ w'.cell? ⟨gx, 5, none⟩ = some (.int .i64 x.m) ∧ w'.cell? ⟨gx, 6, none⟩ = some (.int .i64 x.name) ∧ w'.cell? ⟨gx, 7, none⟩ = some (.int .i64 x.defs) ∧ w'.cell? ⟨gx, 8, none⟩ = some (.int .i64 x.how) ∧ w'.cell? ⟨gx, 9, none⟩ = some (.slice x.A x.n x.c) ∧ w'.cell? ⟨gx, 10, none⟩ = some (.slice x.L x.ln x.lc)) (first | exact ⟨q0, q1, q2, q3, q4, q5, q6, q7, q8, q9, q10⟩ | exact HCELL.out _ (by first | assumption | exact k0 | exact (Chg.refl _ _).alloc _ | exact ((Chg.refl _ _).alloc _).drew | exact Chg.alloc (by assumption) _ | exact (Chg.alloc (by assumption) _).drew | exact Chg.drew (by assumption))) (first
        | (go_at_call 6; (with_reducible refine (HONE.out _ (by first | assumption | exact k0 | exact (Chg.refl _ _).alloc _ | exact ((Chg.refl _ _).alloc _).drew | exact Chg.alloc (by assumption) _ | exact (Chg.alloc (by assumption) _).drew | exact Chg.drew (by assumption))).mono ?_); rintro e w5 ⟨⟨id, ver, tm, ty, node, m, nm, A5, c5, bs, D5, dc5, dl⟩, he, hE, hoff, hc5⟩; simp only [EvF.val, EvF.row] at he; subst he; have HE := Lib.hid hE; have HOFF := Lib.hid hoff; clear hE hoff; have k5 : Chg (fun _ => False) w3 w5 := Chg.trans (by first | assumption | exact k0 | exact (Chg.refl _ _).alloc _ | exact ((Chg.refl _ _).alloc _).drew | exact Chg.alloc (by assumption) _ | exact (Chg.alloc (by assumption) _).drew | exact Chg.drew (by assumption)) hc5 (fun x hx => hx.elim))
        | (refine step_append_rd _ (by rfl) (.tmp 41) (.tmp 44) 27 (by rfl) w3.heap.size 32 i0 _ 9 112 Tryz.underlying27 hi hz0 hz1 hz2 (by rfl) (by decide) _ 0 _ (eoC ([] : List EvF)) (by rfl) (World.ownsRow.alloc (hc5.ownS (made_at (Nat.le_refl _)) (fun _ _ h => h)) _) _ 1 1 (eoC [⟨id, ver, tm, ty, node, m, nm, A5, c5, bs, D5, dc5, dl⟩]) (by rfl) (by rfl) (by exact Rd.newRow w5 _ _ _ rfl) (eoC_one _) hl3 hl4 (Chg.size (by first | assumption | exact k0 | exact (Chg.refl _ _).alloc _ | exact ((Chg.refl _ _).alloc _).drew | exact Chg.alloc (by assumption) _ | exact (Chg.alloc (by assumption) _).drew | exact Chg.drew (by assumption))) ?_; intro A7 c7 w7 hown7 hg7 hb7; have k7 : Chg (fun _ => False) w3 w7 := Chg.trans (by first | assumption | exact k0 | exact (Chg.refl _ _).alloc _ | exact ((Chg.refl _ _).alloc _).drew | exact Chg.alloc (by assumption) _ | exact (Chg.alloc (by assumption) _).drew | exact Chg.drew (by assumption)) hg7 (fun x hx => .inr (by have e := Option.some.inj hx; subst e; exact Nat.le_refl _)))
        | (refine step_append_rd _ (by rfl) (.tmp 45) (.tmp 48) 27 (by rfl) w3.heap.size 32 i0 _ 9 112 Tryz.underlying27 hi hz0 hz1 hz2 (by rfl) (by decide) _ (0 + 1) _ _ (by rfl) hown7 _ 0 _ (eoC ([] : List EvF)) (by rfl) HRL.out (HRR.out _ k7) (eoC_one _) hl5 hl6 (Chg.size k7) ?_; intro A8 c8 w8 hown8 hg8 hb8; have k8 : Chg (fun _ => False) w3 w8 := Chg.trans k7 hg8 (fun x hx => .inr (own_lt hown7 hx).1))
        | fail)
      all_goals
        go_wp2_with fail
        go_meet
        have O6 : OwnL w3 (w3.alloc (.cells #[] 32)).drew (some ⟨w3.heap.size, 0, none⟩) 0 [] := ⟨made_at (Nat.le_refl _), (fun f hf => absurd hf (by simp)), (fun f hf => absurd hf (by simp)), ((Chg.refl _ _).alloc _).drew⟩
        have O5 := O6.still (Chg.alloc hc5 (.cells (EvF.row ⟨id, ver, tm, ty, node, m, nm, A5, c5, bs, D5, dc5, dl⟩) 32))
        have O7 := O5.snoc (HE.out.still ((Chg.refl _ _).alloc _)) (HOFF.out.mono (fun x hx => by have e := Option.some.inj hx; subst e; exact Chg.size (((Chg.refl (fun _ => False) _).alloc _).drew))) hown7 hg7 hb7
        exact ⟨A8, c8, ([] ++ [⟨id, ver, tm, ty, node, m, nm, A5, c5, bs, D5, dc5, dl⟩]) ++ [], rfl, (by simp), (OwnL.app (m := []) O7 (fun f hf => absurd hf (by simp)) (fun f hf => absurd hf (by simp)) hown8 hg8 hb8).rd, k8⟩
    · by_cases hc0 : c = 0
      · subst hc0
        obtain rfl : l = [] := List.length_eq_zero_iff.1 (by omega)
        obtain rfl : n = 0 := HNN.out
        obtain rfl : k = 0 := by omega
        have HTL := Lib.hid (show (eoC ([] : List EvF)).length = 0 * 9 from rfl)
        have HRL := Lib.hid (show (eoC ([] : List EvF)).length = 0 * 9 from rfl)
        have HRT := Lib.hid (fun (w' : World) (_ : Chg (fun _ => False) w3 w') => Rd.nil w' (some ⟨g, 0, none⟩))
        have HRR := HRT
        have hl3 : 0 + 1 ≤ maxLen := by decide
        have hl4 : (0 + 1) * 112 ≤ 140737488355328 := by decide
        have hl5 : 0 + 1 + 0 ≤ maxLen := by decide
        have hl6 : (0 + 1 + 0) * 112 ≤ 140737488355328 := by decide
        go_region_held3 (fun w' => w'.cell? ⟨gx, 0, none⟩ = some (.int .i64 x.id) ∧ w'.cell? ⟨gx, 1, none⟩ = some (.int .i64 x.ver) ∧ w'.cell? ⟨gx, 2, none⟩ = some (.int .i64 x.tm) ∧ w'.cell? ⟨gx, 3, none⟩ = some (.int .i64 x.ty) ∧ w'.cell? ⟨gx, 4, none⟩ = some (.int .i64 x.node) ∧ w'.cell? ⟨gx, 5, none⟩ = some (.int .i64 x.m) ∧ w'.cell? ⟨gx, 6, none⟩ = some (.int .i64 x.name) ∧ w'.cell? ⟨gx, 7, none⟩ = some (.int .i64 x.defs) ∧ w'.cell? ⟨gx, 8, none⟩ = some (.int .i64 x.how) ∧ w'.cell? ⟨gx, 9, none⟩ = some (.slice x.A x.n x.c) ∧ w'.cell? ⟨gx, 10, none⟩ = some (.slice x.L x.ln x.lc)) (first | exact ⟨q0, q1, q2, q3, q4, q5, q6, q7, q8, q9, q10⟩ | exact HCELL.out _ (by first | assumption | exact k0 | exact (Chg.refl _ _).alloc _ | exact ((Chg.refl _ _).alloc _).drew | exact Chg.alloc (by assumption) _ | exact (Chg.alloc (by assumption) _).drew | exact Chg.drew (by assumption))) (first
          | (go_at_call 6; (with_reducible refine (HONE.out _ (by first | assumption | exact k0 | exact (Chg.refl _ _).alloc _ | exact ((Chg.refl _ _).alloc _).drew | exact Chg.alloc (by assumption) _ | exact (Chg.alloc (by assumption) _).drew | exact Chg.drew (by assumption))).mono ?_); rintro e w5 ⟨⟨id, ver, tm, ty, node, m, nm, A5, c5, bs, D5, dc5, dl⟩, he, hE, hoff, hc5⟩; simp only [EvF.val, EvF.row] at he; subst he; have HE := Lib.hid hE; have HOFF := Lib.hid hoff; clear hE hoff; have k5 : Chg (fun _ => False) w3 w5 := Chg.trans (by first | assumption | exact k0 | exact (Chg.refl _ _).alloc _ | exact ((Chg.refl _ _).alloc _).drew | exact Chg.alloc (by assumption) _ | exact (Chg.alloc (by assumption) _).drew | exact Chg.drew (by assumption)) hc5 (fun x hx => hx.elim))
          | (refine step_append_rd _ (by rfl) (.tmp 41) (.tmp 44) 27 (by rfl) w3.heap.size 32 i0 _ 9 112 Tryz.underlying27 hi hz0 hz1 hz2 (by rfl) (by decide) _ 0 _ (eoC ([] : List EvF)) (by rfl) (World.ownsRow.alloc (hc5.ownS (made_at (Nat.le_refl _)) (fun _ _ h => h)) _) _ 1 1 (eoC [⟨id, ver, tm, ty, node, m, nm, A5, c5, bs, D5, dc5, dl⟩]) (by rfl) (by rfl) (by exact Rd.newRow w5 _ _ _ rfl) (eoC_one _) hl3 hl4 (Chg.size (by first | assumption | exact k0 | exact (Chg.refl _ _).alloc _ | exact ((Chg.refl _ _).alloc _).drew | exact Chg.alloc (by assumption) _ | exact (Chg.alloc (by assumption) _).drew | exact Chg.drew (by assumption))) ?_; intro A7 c7 w7 hown7 hg7 hb7; have k7 : Chg (fun _ => False) w3 w7 := Chg.trans (by first | assumption | exact k0 | exact (Chg.refl _ _).alloc _ | exact ((Chg.refl _ _).alloc _).drew | exact Chg.alloc (by assumption) _ | exact (Chg.alloc (by assumption) _).drew | exact Chg.drew (by assumption)) hg7 (fun x hx => .inr (by have e := Option.some.inj hx; subst e; exact Nat.le_refl _)))
          | (refine step_append_rd _ (by rfl) (.tmp 45) (.tmp 48) 27 (by rfl) w3.heap.size 32 i0 _ 9 112 Tryz.underlying27 hi hz0 hz1 hz2 (by rfl) (by decide) _ (0 + 1) _ _ (by rfl) hown7 _ 0 _ (eoC ([] : List EvF)) (by rfl) HRL.out (HRR.out _ k7) (eoC_one _) hl5 hl6 (Chg.size k7) ?_; intro A8 c8 w8 hown8 hg8 hb8; have k8 : Chg (fun _ => False) w3 w8 := Chg.trans k7 hg8 (fun x hx => .inr (own_lt hown7 hx).1))
          | fail)
        all_goals
          go_wp2_with fail
          go_meet
          have O6 : OwnL w3 (w3.alloc (.cells #[] 32)).drew (some ⟨w3.heap.size, 0, none⟩) 0 [] := ⟨made_at (Nat.le_refl _), (fun f hf => absurd hf (by simp)), (fun f hf => absurd hf (by simp)), ((Chg.refl _ _).alloc _).drew⟩
          have O5 := O6.still (Chg.alloc hc5 (.cells (EvF.row ⟨id, ver, tm, ty, node, m, nm, A5, c5, bs, D5, dc5, dl⟩) 32))
          have O7 := O5.snoc (HE.out.still ((Chg.refl _ _).alloc _)) (HOFF.out.mono (fun x hx => by have e := Option.some.inj hx; subst e; exact Chg.size (((Chg.refl (fun _ => False) _).alloc _).drew))) hown7 hg7 hb7
          exact ⟨A8, c8, ([] ++ [⟨id, ver, tm, ty, node, m, nm, A5, c5, bs, D5, dc5, dl⟩]) ++ [], rfl, (by simp), (OwnL.app (m := []) O7 (fun f hf => absurd hf (by simp)) (fun f hf => absurd hf (by simp)) hown8 hg8 hb8).rd, k8⟩
      have hkn : k ≤ n := by omega
      have hnc : n ≤ c := by rw [HNN.out]; exact hlc
      obtain ⟨t, ht⟩ : ∃ t, t = l.take k := ⟨_, rfl⟩
      obtain ⟨r, hr⟩ : ∃ r, r = l.drop k := ⟨_, rfl⟩
      have HTN := Lib.hid (show t.length = k by rw [ht, List.length_take, ← HNN.out]; omega)
      have HRN := Lib.hid (show r.length = n - k by rw [hr, List.length_drop, ← HNN.out])
      have HTL := Lib.hid (show (eoC t).length = k * 9 by rw [eoC_len, HTN.out])
      have HRL := Lib.hid (show (eoC r).length = (n - k) * 9 by rw [eoC_len, HRN.out])
      have HTE := Lib.hid (fun (f : EvF) (hf : f ∈ t) => HEV3.out f (List.mem_of_mem_take (ht ▸ hf)))
      have HRE := Lib.hid (fun (f : EvF) (hf : f ∈ r) => HEV3.out f (List.mem_of_mem_drop (hr ▸ hf)))
      have HRT := Lib.hid (fun (w' : World) (hw : Chg (fun _ => False) w3 w') => show Rd w' (some ⟨g, 0, none⟩) (eoC t) by
        have h2 := ((HL.out.still hw).rd.cut 0 k).rd
        rw [Nat.zero_mul, List.drop_zero, ← ht] at h2
        exact h2)
      by_cases hck : c = k
      · have hr0 : r = [] := List.length_eq_zero_iff.1 (by rw [HRN.out]; omega)
        have hcf := eq_true hck
        have HRR := Lib.hid (fun (B : Option Addr) (w' : World) (hw : Chg (fun _ => False) w3 w') => show Rd w' B (eoC r) by rw [hr0]; exact Rd.nil _ _)
        clear hck hr0 ht hr
        have s1 : (0 : Int) ≤ (k : Int) := by omega
        have s2 : (k : Int) ≤ (c : Int) := by omega
        have s3 : (k : Int) ≤ (n : Int) := by omega
        have s4 : (n : Int) ≤ (c : Int) := by omega
        have hl1 : 0 + k ≤ maxLen := by simp only [maxLen]; omega
        have hl2 : (0 + k) * 112 ≤ 140737488355328 := by omega
        have hl3 : k + 1 ≤ maxLen := by simp only [maxLen]; omega
        have hl4 : (k + 1) * 112 ≤ 140737488355328 := by omega
        have hl5 : k + 1 + (n - k) ≤ maxLen := by simp only [maxLen]; omega
        have hl6 : (k + 1 + (n - k)) * 112 ≤ 140737488355328 := by omega
        go_region_held3 (fun w' => w'.cell? ⟨gx, 0, none⟩ = some (.int .i64 x.id) ∧ w'.cell? ⟨gx, 1, none⟩ = some (.int .i64 x.ver) ∧ w'.cell? ⟨gx, 2, none⟩ = some (.int .i64 x.tm) ∧ w'.cell? ⟨gx, 3, none⟩ = some (.int .i64 x.ty) ∧ w'.cell? ⟨gx, 4, none⟩ = some (.int .i64 x.node) ∧ w'.cell? ⟨gx, 5, none⟩ = some (.int .i64 x.m) ∧ w'.cell? ⟨gx, 6, none⟩ = some (.int .i64 x.name) ∧ w'.cell? ⟨gx, 7, none⟩ = some (.int .i64 x.defs) ∧ w'.cell? ⟨gx, 8, none⟩ = some (.int .i64 x.how) ∧ w'.cell? ⟨gx, 9, none⟩ = some (.slice x.A x.n x.c) ∧ w'.cell? ⟨gx, 10, none⟩ = some (.slice x.L x.ln x.lc)) (first | exact ⟨q0, q1, q2, q3, q4, q5, q6, q7, q8, q9, q10⟩ | exact HCELL.out _ (by first | assumption | exact k0 | exact (Chg.refl _ _).alloc _ | exact ((Chg.refl _ _).alloc _).drew | exact Chg.alloc (by assumption) _ | exact (Chg.alloc (by assumption) _).drew | exact Chg.drew (by assumption))) (first
          | (go_at_call 6; (with_reducible refine (HONE.out _ (by first | assumption | exact k0 | exact (Chg.refl _ _).alloc _ | exact ((Chg.refl _ _).alloc _).drew | exact Chg.alloc (by assumption) _ | exact (Chg.alloc (by assumption) _).drew | exact Chg.drew (by assumption))).mono ?_); rintro e w5 ⟨⟨id, ver, tm, ty, node, m, nm, A5, c5, bs, D5, dc5, dl⟩, he, hE, hoff, hc5⟩; simp only [EvF.val, EvF.row] at he; subst he; have HE := Lib.hid hE; have HOFF := Lib.hid hoff; clear hE hoff; have k5 : Chg (fun _ => False) w3 w5 := Chg.trans (by first | assumption | exact k0 | exact (Chg.refl _ _).alloc _ | exact ((Chg.refl _ _).alloc _).drew | exact Chg.alloc (by assumption) _ | exact (Chg.alloc (by assumption) _).drew | exact Chg.drew (by assumption)) hc5 (fun x hx => hx.elim))
          | (refine step_append_rd _ (by rfl) (.tmp 37) (.tmp 40) 27 (by rfl) w3.heap.size 32 i0 _ 9 112 Tryz.underlying27 hi hz0 hz1 hz2 (by rfl) (by decide) _ 0 0 [] (by rfl) (by first | exact made_at (Nat.le_refl _) | exact World.ownsRow.drew (made_at (Nat.le_refl _))) _ k _ (eoC t) (by rfl) HTL.out (HRT.out _ (by first | assumption | exact k0 | exact (Chg.refl _ _).alloc _ | exact ((Chg.refl _ _).alloc _).drew | exact Chg.alloc (by assumption) _ | exact (Chg.alloc (by assumption) _).drew | exact Chg.drew (by assumption))) (eoC_one _) hl1 hl2 (Chg.size (by first | assumption | exact k0 | exact (Chg.refl _ _).alloc _ | exact ((Chg.refl _ _).alloc _).drew | exact Chg.alloc (by assumption) _ | exact (Chg.alloc (by assumption) _).drew | exact Chg.drew (by assumption))) ?_; intro A6 c6 w6 hown6 hg6 hb6; simp only [Nat.zero_add, List.nil_append] at hown6; have k6 : Chg (fun _ => False) w3 w6 := Chg.trans (by first | assumption | exact k0 | exact (Chg.refl _ _).alloc _ | exact ((Chg.refl _ _).alloc _).drew | exact Chg.alloc (by assumption) _ | exact (Chg.alloc (by assumption) _).drew | exact Chg.drew (by assumption)) hg6 (fun x hx => .inr (by have e := Option.some.inj hx; subst e; exact Nat.le_refl _)))
          | (refine step_append_rd _ (by rfl) (.tmp 41) (.tmp 44) 27 (by rfl) w3.heap.size 32 i0 _ 9 112 Tryz.underlying27 hi hz0 hz1 hz2 (by rfl) (by decide) _ k _ (eoC t) (by rfl) (World.ownsRow.alloc (hc5.ownS hown6 (fun _ _ h => h)) _) _ 1 1 (eoC [⟨id, ver, tm, ty, node, m, nm, A5, c5, bs, D5, dc5, dl⟩]) (by rfl) (by rfl) (by exact Rd.newRow w5 _ _ _ rfl) (eoC_one _) hl3 hl4 (Chg.size (by first | assumption | exact k0 | exact (Chg.refl _ _).alloc _ | exact ((Chg.refl _ _).alloc _).drew | exact Chg.alloc (by assumption) _ | exact (Chg.alloc (by assumption) _).drew | exact Chg.drew (by assumption))) ?_; intro A7 c7 w7 hown7 hg7 hb7; have k7 : Chg (fun _ => False) w3 w7 := Chg.trans (by first | assumption | exact k0 | exact (Chg.refl _ _).alloc _ | exact ((Chg.refl _ _).alloc _).drew | exact Chg.alloc (by assumption) _ | exact (Chg.alloc (by assumption) _).drew | exact Chg.drew (by assumption)) hg7 (fun x hx => .inr (own_lt hown6 hx).1))
          | (refine step_append_rd _ (by rfl) (.tmp 45) (.tmp 48) 27 (by rfl) w3.heap.size 32 i0 _ 9 112 Tryz.underlying27 hi hz0 hz1 hz2 (by rfl) (by decide) _ (k + 1) _ _ (by rfl) hown7 _ (n - k) _ (eoC r) (by rfl) HRL.out (HRR.out _ _ k7) (eoC_one _) hl5 hl6 (Chg.size k7) ?_; intro A8 c8 w8 hown8 hg8 hb8; have k8 : Chg (fun _ => False) w3 w8 := Chg.trans k7 hg8 (fun x hx => .inr (own_lt hown7 hx).1))
          | fail)
        all_goals
          go_wp2_with fail
          go_meet
          have O6 : OwnL w3 w6 A6 c6 t := ⟨by rw [HTN.out]; exact hown6, fun f hf => (HTE.out f hf).still k6, fun f hf => (HTE.out f hf).old.mono (fun x hx => (own_lt hown6 hx).1), k6⟩
          have O5 := O6.still (Chg.alloc hc5 (.cells (EvF.row ⟨id, ver, tm, ty, node, m, nm, A5, c5, bs, D5, dc5, dl⟩) 32))
          have O7 := O5.snoc (HE.out.still ((Chg.refl _ _).alloc _)) (HOFF.out.mono (fun x hx => Nat.le_of_lt (own_lt hown6 hx).2)) (by rw [HTN.out]; exact hown7) hg7 hb7
          have O8 := O7.app (m := r) (fun f hf => (HRE.out f hf).still k7) (fun f hf => (HRE.out f hf).old.mono (fun x hx => (own_lt hown7 hx).1)) (by rw [List.length_append, List.length_singleton, HTN.out, HRN.out, eoC_app]; exact hown8) hg8 hb8
          exact ⟨A8, c8, (t ++ [⟨id, ver, tm, ty, node, m, nm, A5, c5, bs, D5, dc5, dl⟩]) ++ r, by rw [List.length_append, List.length_append, List.length_singleton, HTN.out, HRN.out], by rw [List.length_append, List.length_append, List.length_singleton, HTN.out, HRN.out]; omega, O8.rd, k8⟩
      · have HRR := Lib.hid (fun (w' : World) (hw : Chg (fun _ => False) w3 w') => show Rd w' (some ⟨g, k * 9, none⟩) (eoC r) by
          have h2 := ((HL.out.still hw).rd.cut k n).rd
          rw [Nat.zero_add, List.take_of_length_le (by rw [HNN.out]; exact Nat.le_refl _), ← hr] at h2
          exact h2)
        clear ht hr
        have s1 : (0 : Int) ≤ (k : Int) := by omega
        have s2 : (k : Int) ≤ (c : Int) := by omega
        have s3 : (k : Int) ≤ (n : Int) := by omega
        have s4 : (n : Int) ≤ (c : Int) := by omega
        have hl1 : 0 + k ≤ maxLen := by simp only [maxLen]; omega
        have hl2 : (0 + k) * 112 ≤ 140737488355328 := by omega
        have hl3 : k + 1 ≤ maxLen := by simp only [maxLen]; omega
        have hl4 : (k + 1) * 112 ≤ 140737488355328 := by omega
        have hl5 : k + 1 + (n - k) ≤ maxLen := by simp only [maxLen]; omega
        have hl6 : (k + 1 + (n - k)) * 112 ≤ 140737488355328 := by omega
        go_region_held3 (fun w' => w'.cell? ⟨gx, 0, none⟩ = some (.int .i64 x.id) ∧ w'.cell? ⟨gx, 1, none⟩ = some (.int .i64 x.ver) ∧ w'.cell? ⟨gx, 2, none⟩ = some (.int .i64 x.tm) ∧ w'.cell? ⟨gx, 3, none⟩ = some (.int .i64 x.ty) ∧ w'.cell? ⟨gx, 4, none⟩ = some (.int .i64 x.node) ∧ w'.cell? ⟨gx, 5, none⟩ = some (.int .i64 x.m) ∧ w'.cell? ⟨gx, 6, none⟩ = some (.int .i64 x.name) ∧ w'.cell? ⟨gx, 7, none⟩ = some (.int .i64 x.defs) ∧ w'.cell? ⟨gx, 8, none⟩ = some (.int .i64 x.how) ∧ w'.cell? ⟨gx, 9, none⟩ = some (.slice x.A x.n x.c) ∧ w'.cell? ⟨gx, 10, none⟩ = some (.slice x.L x.ln x.lc)) (first | exact ⟨q0, q1, q2, q3, q4, q5, q6, q7, q8, q9, q10⟩ | exact HCELL.out _ (by first | assumption | exact k0 | exact (Chg.refl _ _).alloc _ | exact ((Chg.refl _ _).alloc _).drew | exact Chg.alloc (by assumption) _ | exact (Chg.alloc (by assumption) _).drew | exact Chg.drew (by assumption))) (first
          | (go_at_call 6; (with_reducible refine (HONE.out _ (by first | assumption | exact k0 | exact (Chg.refl _ _).alloc _ | exact ((Chg.refl _ _).alloc _).drew | exact Chg.alloc (by assumption) _ | exact (Chg.alloc (by assumption) _).drew | exact Chg.drew (by assumption))).mono ?_); rintro e w5 ⟨⟨id, ver, tm, ty, node, m, nm, A5, c5, bs, D5, dc5, dl⟩, he, hE, hoff, hc5⟩; simp only [EvF.val, EvF.row] at he; subst he; have HE := Lib.hid hE; have HOFF := Lib.hid hoff; clear hE hoff; have k5 : Chg (fun _ => False) w3 w5 := Chg.trans (by first | assumption | exact k0 | exact (Chg.refl _ _).alloc _ | exact ((Chg.refl _ _).alloc _).drew | exact Chg.alloc (by assumption) _ | exact (Chg.alloc (by assumption) _).drew | exact Chg.drew (by assumption)) hc5 (fun x hx => hx.elim))
          | (refine step_append_rd _ (by rfl) (.tmp 37) (.tmp 40) 27 (by rfl) w3.heap.size 32 i0 _ 9 112 Tryz.underlying27 hi hz0 hz1 hz2 (by rfl) (by decide) _ 0 0 [] (by rfl) (by first | exact made_at (Nat.le_refl _) | exact World.ownsRow.drew (made_at (Nat.le_refl _))) _ k _ (eoC t) (by rfl) HTL.out (HRT.out _ (by first | assumption | exact k0 | exact (Chg.refl _ _).alloc _ | exact ((Chg.refl _ _).alloc _).drew | exact Chg.alloc (by assumption) _ | exact (Chg.alloc (by assumption) _).drew | exact Chg.drew (by assumption))) (eoC_one _) hl1 hl2 (Chg.size (by first | assumption | exact k0 | exact (Chg.refl _ _).alloc _ | exact ((Chg.refl _ _).alloc _).drew | exact Chg.alloc (by assumption) _ | exact (Chg.alloc (by assumption) _).drew | exact Chg.drew (by assumption))) ?_; intro A6 c6 w6 hown6 hg6 hb6; simp only [Nat.zero_add, List.nil_append] at hown6; have k6 : Chg (fun _ => False) w3 w6 := Chg.trans (by first | assumption | exact k0 | exact (Chg.refl _ _).alloc _ | exact ((Chg.refl _ _).alloc _).drew | exact Chg.alloc (by assumption) _ | exact (Chg.alloc (by assumption) _).drew | exact Chg.drew (by assumption)) hg6 (fun x hx => .inr (by have e := Option.some.inj hx; subst e; exact Nat.le_refl _)))
          | (refine step_append_rd _ (by rfl) (.tmp 41) (.tmp 44) 27 (by rfl) w3.heap.size 32 i0 _ 9 112 Tryz.underlying27 hi hz0 hz1 hz2 (by rfl) (by decide) _ k _ (eoC t) (by rfl) (World.ownsRow.alloc (hc5.ownS hown6 (fun _ _ h => h)) _) _ 1 1 (eoC [⟨id, ver, tm, ty, node, m, nm, A5, c5, bs, D5, dc5, dl⟩]) (by rfl) (by rfl) (by exact Rd.newRow w5 _ _ _ rfl) (eoC_one _) hl3 hl4 (Chg.size (by first | assumption | exact k0 | exact (Chg.refl _ _).alloc _ | exact ((Chg.refl _ _).alloc _).drew | exact Chg.alloc (by assumption) _ | exact (Chg.alloc (by assumption) _).drew | exact Chg.drew (by assumption))) ?_; intro A7 c7 w7 hown7 hg7 hb7; have k7 : Chg (fun _ => False) w3 w7 := Chg.trans (by first | assumption | exact k0 | exact (Chg.refl _ _).alloc _ | exact ((Chg.refl _ _).alloc _).drew | exact Chg.alloc (by assumption) _ | exact (Chg.alloc (by assumption) _).drew | exact Chg.drew (by assumption)) hg7 (fun x hx => .inr (own_lt hown6 hx).1))
          | (refine step_append_rd _ (by rfl) (.tmp 45) (.tmp 48) 27 (by rfl) w3.heap.size 32 i0 _ 9 112 Tryz.underlying27 hi hz0 hz1 hz2 (by rfl) (by decide) _ (k + 1) _ _ (by rfl) hown7 _ (n - k) _ (eoC r) (by rfl) HRL.out (HRR.out _ k7) (eoC_one _) hl5 hl6 (Chg.size k7) ?_; intro A8 c8 w8 hown8 hg8 hb8; have k8 : Chg (fun _ => False) w3 w8 := Chg.trans k7 hg8 (fun x hx => .inr (own_lt hown7 hx).1))
          | fail)
        all_goals
          go_wp2_with fail
          go_meet
          have O6 : OwnL w3 w6 A6 c6 t := ⟨by rw [HTN.out]; exact hown6, fun f hf => (HTE.out f hf).still k6, fun f hf => (HTE.out f hf).old.mono (fun x hx => (own_lt hown6 hx).1), k6⟩
          have O5 := O6.still (Chg.alloc hc5 (.cells (EvF.row ⟨id, ver, tm, ty, node, m, nm, A5, c5, bs, D5, dc5, dl⟩) 32))
          have O7 := O5.snoc (HE.out.still ((Chg.refl _ _).alloc _)) (HOFF.out.mono (fun x hx => Nat.le_of_lt (own_lt hown6 hx).2)) (by rw [HTN.out]; exact hown7) hg7 hb7
          have O8 := O7.app (m := r) (fun f hf => (HRE.out f hf).still k7) (fun f hf => (HRE.out f hf).old.mono (fun x hx => (own_lt hown7 hx).1)) (by rw [List.length_append, List.length_singleton, HTN.out, HRN.out, eoC_app]; exact hown8) hg8 hb8
          exact ⟨A8, c8, (t ++ [⟨id, ver, tm, ty, node, m, nm, A5, c5, bs, D5, dc5, dl⟩]) ++ r, by rw [List.length_append, List.length_append, List.length_singleton, HTN.out, HRN.out], by rw [List.length_append, List.length_append, List.length_singleton, HTN.out, HRN.out]; omega, O8.rd, k8⟩
  obtain ⟨A1, ca, l1, rfl, hl1, hR1, hc31⟩ := hcut
  obtain ⟨w4, hw4⟩ : ∃ w4, w4 = wc := ⟨_, rfl⟩
  rw [← hw4] at hR1 hc31 ⊢
  clear hw4
  have hc4 := hc2.trans hc31 (fun x hx => hx.elim)
  have hpb : ∃ pb : Bool, pb = true ↔ IsLine l1 := ⟨@decide (IsLine l1) (Classical.propDecidable _), by simp⟩
  obtain ⟨pb, hpb⟩ := hpb
  have HR1 := Lib.hid hR1
  have hlaid := laidF_len (l := l1)
  have hbyt := laidF_byt (l := l1) (fun f hf => (hR1.ev f hf).byt)
  have hlong : 2 ≤ (laidF l1).length := by simp only [laidF, allB, List.length_append, be_length]; omega
  obtain ⟨n1, hn1⟩ : ∃ n1, n1 = l1.length := ⟨_, rfl⟩
  have hla := fun (w' : World) (hw : Chg (fun _ => False) w4 w') => layAll_any A1 ca l1 w' (HR1.out.still hw) hl1
  have hlb := fun (w' : World) (hw : Chg (fun _ => False) w4 w') => rlayAll_any A1 ca l1 w' (HR1.out.still hw) hl1
  have hli := fun (w' : World) (hw : Chg (fun _ => False) w4 w') => (line_any A1 ca l1 w' (HR1.out.still hw) hl1).mono (R' := fun e w'' => e = .returned (.bool pb) ∧ Chg (fun _ => False) w' w'') (fun e w'' h => tells_as h hpb)
  have hlj := fun (w' : World) (hw : Chg (fun _ => False) w4 w') => (rline_any A1 ca l1 w' (HR1.out.still hw) hl1).mono (R' := fun e w'' => e = .returned (.bool pb) ∧ Chg (fun _ => False) w' w'') (fun e w'' h => tells_as h hpb)
  rw [← hn1] at hla hlb hli hlj ⊢
  have HLA := Lib.hid hla
  have HLB := Lib.hid hlb
  have HLI := Lib.hid hli
  have HLJ := Lib.hid hlj
  have hcv := fun (w' : World) (C : Option Addr) (n' e : Nat) (ys : List Int) (g : ys.length = n') (h : Rd w' C (ys.map (Value.int .u8))) => run_convert_rd (P := Tryz.prog) w' 24 9 5 Tryz.underlying24 Tryz.underlying5 Tryz.underlying9 C n' e ys g h
  have HCV := Lib.hid hcv
  have HC4 := Lib.hid hc4
  clear hla hlb hli hlj hn1 hpb hR1 hl1 hcv hc31 hc2 hc1 bx2 HL HCH HN HX HNN HR1 hl200 hc4
  by_cases hg : GoodF l1
  rotate_left
  · have HA := Lib.hid (fun (w' : World) (hw : Chg (fun _ => False) w4 w') => (HLA.out w' hw).mono (R' := fun e w'' => e = .returned (.tuple #[.slice none 0 0, .int .i64 1]) ∧ Chg (fun _ => False) w' w'') (fun e w'' h => h.bad hg))
    have HB := Lib.hid (fun (w' : World) (hw : Chg (fun _ => False) w4 w') => (HLB.out w' hw).mono (R' := fun e w'' => e = .returned (.tuple #[.slice none 0 0, .int .i64 1]) ∧ Chg (fun _ => False) w' w'') (fun e w'' h => h.bad hg))
    clear hg hlaid hbyt hlong
    go_wp2_with (first
      | (go_at_call 7; (with_reducible refine (HA.out _ (Chg.refl _ _)).mono ?_); rintro e w5 ⟨rfl, hc5⟩)
      | (go_at_call 8; (with_reducible refine (HB.out _ hc5).mono ?_); rintro e w6 ⟨rfl, hc6⟩; have k6 := hc5.trans hc6 (fun x hx => hx.elim); have v1 := HCV.out w6 none 0 0 [] rfl (Rd.nil _ _))
      | (go_at_call 9; (with_reducible refine (HLI.out _ k6).mono ?_); rintro e w7 ⟨rfl, hc7⟩; have k7 := k6.trans hc7 (fun x hx => hx.elim))
      | (go_at_call 10; (with_reducible refine (HLJ.out _ k7).mono ?_); rintro e w8 ⟨rfl, hc8⟩; have k8 := k7.trans hc8 (fun x hx => hx.elim))
      | (go_at_call 11; (with_reducible refine (known10_any _).mono ?_); rintro e w9 ⟨rfl, hc9⟩; have k9 := k8.trans hc9 (fun x hx => hx.elim)))
    all_goals
      go_ret
      exact ⟨rfl, HC4.out.trans k9 (fun x hx => hx.elim)⟩
  have hlen := hlaid hg
  have HA := fun (w' : World) (hw : Chg (fun _ => False) w4 w') => (HLA.out w' hw).mono (R' := fun e w'' => _) (fun e w'' h => h.good hg)
  have HB := fun (w' : World) (hw : Chg (fun _ => False) w4 w') => (HLB.out w' hw).mono (R' := fun e w'' => _) (fun e w'' h => h.good hg)
  obtain ⟨zs, hzs⟩ : ∃ zs, zs = laidF l1 := ⟨_, rfl⟩
  rw [← hzs] at HA HB hlen hbyt hlong
  obtain ⟨sa, hsa⟩ : ∃ sa, sa = strOfNums zs := ⟨_, rfl⟩
  have HSA := Lib.hid hsa
  clear hzs hsa hlaid hg
  have HA := Lib.hid HA
  have HB := Lib.hid HB
  go_upto_region 7 with (first
    | (go_at_call 7; (with_reducible refine (HA.out _ (Chg.refl _ _)).mono ?_); rintro e w5 ⟨⟨A5, c5, rfl, hcap5, hrd5, _⟩, hc5⟩)
    | (go_at_call 8; (with_reducible refine (HB.out _ hc5).mono ?_); rintro e w6 ⟨⟨A6, c6, rfl, hcap6, hrd6, _⟩, hc6⟩; have k6 := hc5.trans hc6 (fun x hx => hx.elim)))
  have HRD6 := Lib.hid hrd6
  have hrd56 := hrd5.keep hc6 (fun _ _ h => h)
  have v1 := HCV.out w6 A5 _ c5 zs rfl hrd56
  have v2 := HCV.out w6 A6 _ c6 zs rfl hrd6
  rw [← HSA.out] at v1 v2
  clear hrd6 hrd56 hrd5 hc5 hc6
  go_cut [76] from 60 to 75 (fun v w' => v = .bool false ∧ Chg (fun _ => False) w6 w')
  case first =>
    go_wp2_with (first
      | (go_at_call 9; (with_reducible refine (HLI.out _ k6).mono ?_); rintro e w7 ⟨rfl, hc7⟩; have k7 := k6.trans hc7 (fun x hx => hx.elim))
      | (go_at_call 10; (with_reducible refine (HLJ.out _ k7).mono ?_); rintro e w8 ⟨rfl, hc8⟩; have k8 := k7.trans hc8 (fun x hx => hx.elim)))
    all_goals
      go_meet
      exact ⟨by simp, hc7.trans hc8 (fun x hx => hx.elim)⟩
  obtain ⟨rfl, hcX⟩ := hcut
  obtain ⟨w7, hw7⟩ : ∃ w7, w7 = wc := ⟨_, rfl⟩
  rw [← hw7] at hcX ⊢
  clear hw7
  have k7 := HC4.out.trans (k6.trans hcX (fun x hx => hx.elim)) (fun x hx => hx.elim)
  have hrd7 := HRD6.out.keep hcX (fun _ _ h => h)
  obtain ⟨M, hM⟩ : ∃ M, M = zs.length := ⟨_, rfl⟩
  rw [← hM] at hlen hlong hcap6 ⊢
  have HM := Lib.hid hM
  have hF := few_any A6 c6 M M zs w7 hrd7 hM.symm (by omega) hcap6 (by omega)
  rw [List.take_of_length_le (by rw [HM.out]; exact Nat.le_refl _)] at hF
  have HBY := Lib.hid hbyt
  clear hM v1 v2 hrd7 hbyt HCV HLA HLB HLI HLJ HA HB k6 hcX HRD6 hcap5
  go_upto_region 12 with (go_at_call 12; (with_reducible refine hF.mono ?_); rintro e w8 ⟨Z2, c2, rfl, ho, hc8⟩)
  obtain ⟨gz, rfl⟩ : ∃ gz, Z2 = some ⟨gz, 0, none⟩ := by
    rcases ho.2 with ⟨h0, h1⟩ | ⟨g9, cap9, cur9, hv9, _⟩
    · have := HM.out; omega
    · injection hv9 with h9; exact ⟨g9, h9⟩
  have hgz : w7.heap.size ≤ gz := (own_lt ho rfl).1
  have hcap := own_cap2 ho
  rw [← HM.out] at ho hcap ⊢
  obtain ⟨base, hbase⟩ : ∃ base, base = w7.heap.size := ⟨_, rfl⟩
  rw [← hbase] at ho
  have HO := Lib.hid ho
  clear hbase hF ho
  have k8 := k7.trans hc8 (fun x hx => hx.elim)
  have hgzw : w.heap.size ≤ gz := Nat.le_trans k7.size hgz
  go_cut [86] from 84 to 85 (fun v w' => (∃ b : Bool, v = .bool b) ∧ w' = w8)
  case first =>
    go_wp2_with fail
    go_meet
    exact ⟨⟨_, rfl⟩, rfl⟩
  obtain ⟨⟨bq, rfl⟩, hww⟩ := hcut
  go_upto_if 86 with fail
  rw [hww]
  go_cut [] from 87 to 96 (fun w' => ∃ zs' : List Int, zs'.length = M ∧ (∀ x ∈ zs', 0 ≤ x ∧ x ≤ 255) ∧ w'.ownsRow base 5 1 (.slice (some ⟨gz, 0, none⟩) M c2) M (zs'.map (Value.int .u8)) ∧ Chg (· = gz) w8 w')
  case first =>
    cases bq
    · go_wp2_with fail
      go_meet
      exact ⟨zs, HM.out.symm, HBY.out, HO.out, Chg.refl _ _⟩
    · go_wp2_with (go_at_call 5; (with_reducible refine (pick_nat _ _ _ (by omega) (by omega)).mono ?_); rintro e w' ⟨r, hr, rfl, rfl⟩; have hrM : r < M := (by omega); have hrz : r < zs.length := (by rw [← HM.out]; exact hrM); have i0 : (0 : Int) ≤ (r : Int) := (by omega); have c0 := HO.out.cellAt r (by omega); rw [List.getElem?_map, List.getElem?_eq_getElem hrz] at c0; obtain ⟨zv, hzv⟩ : ∃ zv, zv = zs[r] := ⟨_, rfl⟩; rw [← hzv] at c0; clear hzv; simp only [Option.map_some] at c0; have z0 := HO.out.frozenAt r)
      go_meet
      exact ⟨zs.set r (bits .xor .u8 zv by_), by rw [List.length_set]; exact HM.out.symm, (fun x hx => by
        rcases List.mem_or_eq_of_mem_set hx with hx | hx
        · exact HBY.out x hx
        · rw [hx]; exact xor_byt _ _), by rw [List.map_set]; exact (HO.out.stored r _).1, chg_put w8 gz r _⟩
  obtain ⟨zs', hzl, hzb, ho, hcj⟩ := hcut
  obtain ⟨w9, hw9⟩ : ∃ w9, w9 = wc := ⟨_, rfl⟩
  rw [← hw9] at ho hcj ⊢
  clear hw9
  have k9 := k8.trans hcj (fun x hx => .inr (by rw [hx]; exact hgzw))
  have hrd9 := Rd.of_own ho
  have hlt9 : gz < w9.heap.size := (own_lt ho rfl).2
  have hra := fun (w' : World) (hw : Chg (fun _ => False) w9 w') => readAll_any (some ⟨gz, 0, none⟩) M c2 zs' w' (hrd9.keep hw (fun _ _ h => h)) hzl (by omega) hzb
  have hrb := fun (w' : World) (hw : Chg (fun _ => False) w9 w') => rreadAll_any (some ⟨gz, 0, none⟩) M c2 zs' w' (hrd9.keep hw (fun _ _ h => h)) hzl hcap (fun x hx => by have e := Option.some.inj hx; subst e; exact Nat.lt_of_lt_of_le hlt9 hw.size) (by omega) hzb
  have HRA := Lib.hid hra
  have HRB := Lib.hid hrb
  have K9 := Lib.hid k9
  clear hra hrb hrd9 ho hcj k8 k9 HO HBY hc8 k7 hcap6 hzb
  by_cases hv : ∃ vs, Good vs ∧ allB vs = zs'
  · obtain ⟨vs, hgv, hev⟩ := hv
    have HA := Lib.hid (fun (w' : World) (hw : Chg (fun _ => False) w9 w') => (HRA.out w' hw).mono (R' := fun e w'' => _) (fun e w'' h => h.ok hgv hev))
    have HB := Lib.hid (fun (w' : World) (hw : Chg (fun _ => False) w9 w') => (HRB.out w' hw).mono (R' := fun e w'' => _) (fun e w'' h => h.ok hgv hev))
    clear hgv hev
    go_wp2_with (first
      | (go_at_call 13; (with_reducible refine (HA.out _ (Chg.refl _ _)).mono ?_); rintro e w10 ⟨⟨A8, c8, m8, rfl, hrd8, hgd8, hmv8⟩, hc10⟩; have HMV8 := Lib.hid hmv8; have HRD8 := Lib.hid hrd8; have HG8 := Lib.hid hgd8.1; clear hmv8 hrd8 hgd8)
      | (go_at_call 14; (with_reducible refine (HB.out _ hc10).mono ?_); rintro e w11 ⟨⟨A9, c9, m9, rfl, hrd9, hgd9, hmv9⟩, hc11⟩; have HMV9 := Lib.hid hmv9; have HRD9 := Lib.hid hrd9; have HG9 := Lib.hid hgd9.1; clear hmv9 hrd9 hgd9; have k11 := hc10.trans hc11 (fun x hx => hx.elim))
      | (go_at_call 15; (with_reducible refine hsm.mono ?_); rintro e w13 ⟨rfl, hc13⟩; have k13 := k12.trans hc13 (fun x hx => hx.elim))
      | (go_at_call 11; (with_reducible refine (known10_any _).mono ?_); rintro e w12 ⟨rfl, hc12⟩; have k12 := k11.trans hc12 (fun x hx => hx.elim); have hsm := (rsameAll_any A8 A9 c8 c9 m8 m9 w12 ((HRD8.out.still hc11).still hc12) (HRD9.out.still hc12) (by have := HG8.out; omega) (by have := HG9.out; omega)).mono (R' := fun e w' => _) (fun e w' h => tells_so h (HMV8.out.trans HMV9.out.symm))))
    go_ret
    exact ⟨rfl, K9.out.trans k13 (fun x hx => hx.elim)⟩
  · have HA := Lib.hid (fun (w' : World) (hw : Chg (fun _ => False) w9 w') => (HRA.out w' hw).mono (R' := fun e w'' => _) (fun e w'' h => ReadAllGave.no h hv))
    have HB := Lib.hid (fun (w' : World) (hw : Chg (fun _ => False) w9 w') => (HRB.out w' hw).mono (R' := fun e w'' => _) (fun e w'' h => ReadAllGave.no h hv))
    clear hv
    go_wp2_with (first
      | (go_at_call 13; (with_reducible refine (HA.out _ (Chg.refl _ _)).mono ?_); rintro e w10 ⟨rfl, hc10⟩)
      | (go_at_call 14; (with_reducible refine (HB.out _ hc10).mono ?_); rintro e w11 ⟨rfl, hc11⟩; have k11 := hc10.trans hc11 (fun x hx => hx.elim))
      | (go_at_call 15; (with_reducible refine hsm.mono ?_); rintro e w13 ⟨rfl, hc13⟩; have k13 := k12.trans hc13 (fun x hx => hx.elim))
      | (go_at_call 11; (with_reducible refine (known10_any _).mono ?_); rintro e w12 ⟨rfl, hc12⟩; have k12 := k11.trans hc12 (fun x hx => hx.elim); have hsm := (rsameAll_any none none 0 0 [] [] w12 (RdEv.nil _ _) (RdEv.nil _ _) (by simp) (by simp)).mono (R' := fun e w' => _) (fun e w' h => tells_so h rfl); simp only [List.length_nil] at hsm))
    go_ret
    exact ⟨rfl, K9.out.trans k13 (fun x hx => hx.elim)⟩
end Go.Proofs.YtngfimjbgopgjaaGreatDoor.eventLists
