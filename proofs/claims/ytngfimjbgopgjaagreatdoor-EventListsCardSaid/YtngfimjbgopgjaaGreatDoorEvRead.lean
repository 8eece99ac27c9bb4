/- Contracts of event.Read where no Defs are read (gen_evread.py). -/
import Derived.Test.YtngfimjbgopgjaaGreatDoorEvLay
import Derived.Test.YtngfimjbgopgjaaGreatDoorItAll
namespace Go.Proofs.YtngfimjbgopgjaaGreatDoor
open Go.RowKit
set_option linter.unusedVariables false

theorem BoxAt.set9 {w : World} {g : Nat} {T : TypeId} {a0 a1 a2 a3 a4 a5 a6 a7 a8 : Value} (h : BoxAt w g T #[a0, a1, a2, a3, a4, a5, a6, a7, a8]) (u0 u1 u2 u3 u4 u5 u6 u7 u8 : Value) : BoxAt (((((((((w.setCell ⟨g, 0, none⟩ u0).setCell ⟨g, 1, none⟩ u1).setCell ⟨g, 2, none⟩ u2).setCell ⟨g, 3, none⟩ u3).setCell ⟨g, 4, none⟩ u4).setCell ⟨g, 5, none⟩ u5).setCell ⟨g, 6, none⟩ u6).setCell ⟨g, 7, none⟩ u7).setCell ⟨g, 8, none⟩ u8) g T #[u0, u1, u2, u3, u4, u5, u6, u7, u8] :=
  by
  unfold BoxAt at *
  simp [World.setCell, Array.getElem?_modify, h]
theorem chg_set9 (w : World) (g : Nat) (u0 u1 u2 u3 u4 u5 u6 u7 u8 : Value) : Chg (fun x => x = g) w (((((((((w.setCell ⟨g, 0, none⟩ u0).setCell ⟨g, 1, none⟩ u1).setCell ⟨g, 2, none⟩ u2).setCell ⟨g, 3, none⟩ u3).setCell ⟨g, 4, none⟩ u4).setCell ⟨g, 5, none⟩ u5).setCell ⟨g, 6, none⟩ u6).setCell ⟨g, 7, none⟩ u7).setCell ⟨g, 8, none⟩ u8) :=
  (((((((((Chg.refl (fun x => x = g) w).setCell (p := ⟨g, 0, none⟩) (.inl rfl) _).setCell (p := ⟨g, 1, none⟩) (.inl rfl) _).setCell (p := ⟨g, 2, none⟩) (.inl rfl) _).setCell (p := ⟨g, 3, none⟩) (.inl rfl) _).setCell (p := ⟨g, 4, none⟩) (.inl rfl) _).setCell (p := ⟨g, 5, none⟩) (.inl rfl) _).setCell (p := ⟨g, 6, none⟩) (.inl rfl) _).setCell (p := ⟨g, 7, none⟩) (.inl rfl) _).setCell (p := ⟨g, 8, none⟩) (.inl rfl) _
theorem evSize : (Tryz.prog.info? 32).map (·.size) = some 9 := by kernel_rfl

set_option maxHeartbeats 4000000 in
set_option maxRecDepth 20000 in
theorem readE_yes {xs r1 r2 r3 r4 r5 r6 r7 r8 r9 nb bs : List Int} {l1 l2 l3 l4 l5 l6 l7 l8 l9 : Bool} {id ver tm ty node m : Int} (B : Option Addr) (n d : Nat) (w : World) (h : Rd w B (xs.map (Value.int .u8))) (hn : xs.length = n) (hn2 : n ≤ 1000) (hby : ∀ x ∈ xs, 0 ≤ x ∧ x ≤ 255)
    (X1 : numR false xs 2 = (id, l1, r1)) (X2 : numR l1 r1 8 = (ver, l2, r2)) (X3 : numR l2 r2 8 = (tm, l3, r3)) (X4 : numR l3 r3 1 = (ty, l4, r4)) (X5 : numR l4 r4 1 = (node, l5, r5)) (X6 : numR l5 r5 8 = (m, l6, r6)) (X7 : shortR l6 r6 = (nb, l7, r7)) (X8 : shortR l7 r7 = (bs, l8, r8)) (X9 : numR l8 r8 1 = (0, l9, r9)) (hl40 : bs.length ≤ 40) (hsz : (strOfNums nb).size ≤ 16) (hE : evB id ver tm ty node m (strOfNums nb) bs = xs)
    (hR : ∀ A' c' w', Calls Tryz.prog 28 #[.agg #[.int .i64 id, .int .i64 ver, .int .i64 tm, .int .i64 ty, .int .i64 node, .int .i64 m, .string (strOfNums nb), .slice A' bs.length c', .slice none 0 0]] w' fun e w'' => e = .returned (.bool true) ∧ Chg (fun _ => False) w' w'') :
    Calls Tryz.prog 30 #[.slice B n d] w fun e w' => ∃ A' c', e = .returned (.tuple #[.agg #[.int .i64 id, .int .i64 ver, .int .i64 tm, .int .i64 ty, .int .i64 node, .int .i64 m, .string (strOfNums nb), .slice A' bs.length c', .slice none 0 0], .int .i64 0]) ∧ Rd w' A' (bs.map (Value.int .u8)) ∧ Chg (fun _ => False) w w' := by
  replace X1 := Lib.hid X1
  replace X2 := Lib.hid X2
  replace X3 := Lib.hid X3
  replace X4 := Lib.hid X4
  replace X5 := Lib.hid X5
  replace X6 := Lib.hid X6
  replace X7 := Lib.hid X7
  replace X8 := Lib.hid X8
  replace X9 := Lib.hid X9
  have HB := Lib.hid h
  have HN := Lib.hid hn
  clear h hn
  have HE := Lib.hid hE
  clear hE
  have bz := BoxAt.new w 32 #[.int .i64 0, .int .i64 0, .int .i64 0, .int .i64 0, .int .i64 0, .int .i64 0, .string { data := #[] }, .slice none 0 0, .slice none 0 0]
  have hc0 : Chg (fun _ => False) w (w.alloc (.cells #[.int .i64 0, .int .i64 0, .int .i64 0, .int .i64 0, .int .i64 0, .int .i64 0, .string { data := #[] }, .slice none 0 0, .slice none 0 0] 32)) := (Chg.refl _ _).alloc _
  have hgz : w.heap.size < (w.alloc (.cells #[.int .i64 0, .int .i64 0, .int .i64 0, .int .i64 0, .int .i64 0, .int .i64 0, .string { data := #[] }, .slice none 0 0, .slice none 0 0] 32)).heap.size := by simp
  go_enter Tryz.func30, Tryz.ntmps30
  go_wp2_with (first
    | (go_at_call 64; have hr := r9'.keep (S := fun _ => False) ((Chg.refl _ w9).alloc (.cells #[.int .i64 id, .int .i64 ver, .int .i64 tm, .int .i64 ty, .int .i64 node, .int .i64 m, .string (strOfNums nb), .slice Ad bs.length cd, .slice none 0 0] 32)) (fun h => h) (fun _ _ h => h); (with_reducible refine (gu8_any p A9 c9 l8 r8 _ hr).mono ?_); rw [X9.out]; rintro e w10 ⟨rfl, A10, c10, r10', hb10, hd⟩; have hc9' : Chg (· = p) w1 w10 := (hc9.alloc _).trans hd (fun x hx => .inl hx); have hbE : BoxAt w10 w9.heap.size 32 #[.int .i64 id, .int .i64 ver, .int .i64 tm, .int .i64 ty, .int .i64 node, .int .i64 m, .string (strOfNums nb), .slice Ad bs.length cd, .slice none 0 0] := (BoxAt.new w9 _ _).keep hd (fun (e : w9.heap.size = p) => by have := r9'.lt; omega); have hRd : Rd w10 Ad (bs.map (Value.int .u8)) := (hBd.1.alloc _).keep hd (fun x hx (e : x = p) => by have h1 := hBd.2 x hx; have h2 := r8'.lt; omega); have hAd : ∀ x, blk Ad = some x → w8.heap.size ≤ x := hBd.2; have q0 := hbE.cell 0 rfl; have q1 := hbE.cell 1 rfl; have q2 := hbE.cell 2 rfl; have q3 := hbE.cell 3 rfl; have q4 := hbE.cell 4 rfl; have q5 := hbE.cell 5 rfl; have q6 := hbE.cell 6 rfl; have q7 := hbE.cell 7 rfl; have q8 := hbE.cell 8 rfl)
    | (go_at_call 36; (with_reducible refine (gshort_any p A8 c8 l7 r7 w8 r8').mono ?_); rw [X8.out]; rintro e w9 ⟨Ad, cd, rfl, hcd, hBd, hst⟩; obtain ⟨A9, c9, r9', hb9, hd⟩ := hst; have hc9 : Chg (· = p) w1 w9 := hc8.trans hd (fun x hx => .inl hx); clear hd)
    | (go_at_call 65; (with_reducible refine (gtext_any p A7 c7 l6 r6 w7 r7').mono ?_); rw [X7.out]; rintro e w8 ⟨rfl, hst⟩; obtain ⟨A8, c8, r8', hb8, hd⟩ := hst; have hc8 : Chg (· = p) w1 w8 := hc7.trans hd (fun x hx => .inl hx); clear hd)
    | (go_at_call 63; (with_reducible refine (gu64_any p A6 c6 l5 r5 w6 r6').mono ?_); rw [X6.out]; rintro e w7 ⟨rfl, A7, c7, r7', hb7, hd⟩; have hc7 : Chg (· = p) w1 w7 := hc6.trans hd (fun x hx => .inl hx); clear hd)
    | (go_at_call 64; (with_reducible refine (gu8_any p A5 c5 l4 r4 w5 r5').mono ?_); rw [X5.out]; rintro e w6 ⟨rfl, A6, c6, r6', hb6, hd⟩; have hc6 : Chg (· = p) w1 w6 := hc5.trans hd (fun x hx => .inl hx); clear hd)
    | (go_at_call 64; (with_reducible refine (gu8_any p A4 c4 l3 r3 w4 r4').mono ?_); rw [X4.out]; rintro e w5 ⟨rfl, A5, c5, r5', hb5, hd⟩; have hc5 : Chg (· = p) w1 w5 := hc4.trans hd (fun x hx => .inl hx); clear hd)
    | (go_at_call 63; (with_reducible refine (gu64_any p A3 c3 l2 r2 w3 r3').mono ?_); rw [X3.out]; rintro e w4 ⟨rfl, A4, c4, r4', hb4, hd⟩; have hc4 : Chg (· = p) w1 w4 := hc3.trans hd (fun x hx => .inl hx); clear hd)
    | (go_at_call 63; (with_reducible refine (gu64_any p A2 c2 l1 r1 w2 r2').mono ?_); rw [X2.out]; rintro e w3 ⟨rfl, A3, c3, r3', hb3, hd⟩; have hc3 : Chg (· = p) w1 w3 := hc2.trans hd (fun x hx => .inl hx); clear hd)
    | (go_at_call 34; (with_reducible refine (gu16_any p A1 c1 false xs w1 r1').mono ?_); rw [X1.out]; rintro e w2 ⟨rfl, A2, c2, r2', hb2, hd⟩; have hc2 : Chg (· = p) w1 w2 := hc1.trans hd (fun x hx => .inl hx); clear hd)
    | (go_at_call 33; go_must (refine (newR_any B d n xs _ (HB.out.alloc _) HN.out (by omega) hby).mono ?_; rintro e w1 ⟨p, A1, c1, rfl, r1', hA1, hp, hcw⟩; have hc1 : Chg (· = p) w1 w1 := Chg.refl _ _)))
  have hcA : Chg (fun _ => False) w w10 := (hc0.trans hcw (fun x hx => hx.elim)).trans hc9' (fun x hx => .inr (by rw [hx]; exact Nat.le_trans hc0.size hp))
  have bz10 := (bz.keep hcw (fun h => h)).keep hc9' (fun (e : w.heap.size = p) => by omega)
  go_loopw [6] (fun i w' => i = .int .i64 0 ∧ w' = w10) (fun _ _ => 0)
  case atStart => exact ⟨rfl, rfl⟩
  case round =>
    obtain ⟨rfl, rfl⟩ := hrel
    have hlay := layE_yes id ver tm ty node m (strOfNums nb) Ad bs.length cd bs wr hRd rfl hl40 hsz (hR Ad cd)
    rw [HE.out] at hlay
    go_wp2_with (first
      | (go_at_call 22; go_must (refine hlay.mono ?_; rintro e w11 ⟨A11, c11, rfl, ho11, hc11⟩; have hbE11 := hbE.keep hc11 (fun h => h); have bz11 := bz10.keep hc11 (fun h => h)))
      | (go_at_call 37; go_must (refine (equalB_any A11 B xs.length n c11 d xs xs w11 (Rd.of_own ho11) ((HB.out.keep hcA (fun _ _ h => h)).keep hc11 (fun _ _ h => h)) rfl HN.out (by have := HN.out; omega) (by omega)).mono ?_; rintro e w12 ⟨rfl, hc12⟩; rw [decide_eq_true rfl]; have hbE12 := hbE11.keep hc12 (fun h => h); have bz12 := bz11.keep hc12 (fun h => h); have s0 := hbE12.cell 0 rfl; have s1 := hbE12.cell 1 rfl; have s2 := hbE12.cell 2 rfl; have s3 := hbE12.cell 3 rfl; have s4 := hbE12.cell 4 rfl; have s5 := hbE12.cell 5 rfl; have s6 := hbE12.cell 6 rfl; have s7 := hbE12.cell 7 rfl; have s8 := hbE12.cell 8 rfl; have t0 := bz12.cell 0 rfl; have t1 := bz12.cell 1 rfl; have t2 := bz12.cell 2 rfl; have t3 := bz12.cell 3 rfl; have t4 := bz12.cell 4 rfl; have t5 := bz12.cell 5 rfl; have t6 := bz12.cell 6 rfl; have t7 := bz12.cell 7 rfl; have t8 := bz12.cell 8 rfl; have z0 := bz12.fz 0; have z1 := bz12.fz 1; have z2 := bz12.fz 2; have z3 := bz12.fz 3; have z4 := bz12.fz 4; have z5 := bz12.fz 5; have z6 := bz12.fz 6; have z7 := bz12.fz 7; have z8 := bz12.fz 8)))
    (try simp only [Exit.inBlock, Exit.then])
    refine bodyPost_ret (results_cell_row_tmp rfl _ _ w.heap.size _ _ _ _ rfl (BoxAt.set9 bz12 _ _ _ _ _ _ _ _ _) Tryz.underlying32 rfl evSize) rfl ?_
    have hcS := chg_set9 w12 w.heap.size (.int .i64 id) (.int .i64 ver) (.int .i64 tm) (.int .i64 ty) (.int .i64 node) (.int .i64 m) (.string (strOfNums nb)) (.slice Ad bs.length cd) (.slice none 0 0)
    exact ⟨Ad, cd, rfl, ((hRd.keep hc11 (fun _ _ h => h)).keep hc12 (fun _ _ h => h)).keep hcS (fun x hx (e : x = w.heap.size) => by have h1 := hAd x hx; have h2 := r8'.lt; omega), ((hcA.trans hc11 (fun x hx => hx.elim)).trans hc12 (fun x hx => hx.elim)).trans hcS (fun x hx => .inr (by rw [hx]; exact Nat.le_refl _))⟩

set_option maxHeartbeats 4000000 in
set_option maxRecDepth 20000 in
theorem readE_no {xs r1 r2 r3 r4 r5 r6 r7 r8 r9 nb bs : List Int} {l1 l2 l3 l4 l5 l6 l7 l8 l9 : Bool} {id ver tm ty node m : Int} (B : Option Addr) (n d : Nat) (w : World) (h : Rd w B (xs.map (Value.int .u8))) (hn : xs.length = n) (hn2 : n ≤ 1000) (hby : ∀ x ∈ xs, 0 ≤ x ∧ x ≤ 255)
    (X1 : numR false xs 2 = (id, l1, r1)) (X2 : numR l1 r1 8 = (ver, l2, r2)) (X3 : numR l2 r2 8 = (tm, l3, r3)) (X4 : numR l3 r3 1 = (ty, l4, r4)) (X5 : numR l4 r4 1 = (node, l5, r5)) (X6 : numR l5 r5 8 = (m, l6, r6)) (X7 : shortR l6 r6 = (nb, l7, r7)) (X8 : shortR l7 r7 = (bs, l8, r8)) (X9 : numR l8 r8 1 = (0, l9, r9))
    (hR : ∀ A' c' w', Calls Tryz.prog 28 #[.agg #[.int .i64 id, .int .i64 ver, .int .i64 tm, .int .i64 ty, .int .i64 node, .int .i64 m, .string (strOfNums nb), .slice A' bs.length c', .slice none 0 0]] w' fun e w'' => e = .returned (.bool false) ∧ Chg (fun _ => False) w' w'') :
    Calls Tryz.prog 30 #[.slice B n d] w fun e w' => e = .returned (.tuple #[.agg #[.int .i64 0, .int .i64 0, .int .i64 0, .int .i64 0, .int .i64 0, .int .i64 0, .string { data := #[] }, .slice none 0 0, .slice none 0 0], .int .i64 5]) ∧ Chg (fun _ => False) w w' := by
  replace X1 := Lib.hid X1
  replace X2 := Lib.hid X2
  replace X3 := Lib.hid X3
  replace X4 := Lib.hid X4
  replace X5 := Lib.hid X5
  replace X6 := Lib.hid X6
  replace X7 := Lib.hid X7
  replace X8 := Lib.hid X8
  replace X9 := Lib.hid X9
  have HB := Lib.hid h
  have HN := Lib.hid hn
  clear h hn
  have bz := BoxAt.new w 32 #[.int .i64 0, .int .i64 0, .int .i64 0, .int .i64 0, .int .i64 0, .int .i64 0, .string { data := #[] }, .slice none 0 0, .slice none 0 0]
  have hc0 : Chg (fun _ => False) w (w.alloc (.cells #[.int .i64 0, .int .i64 0, .int .i64 0, .int .i64 0, .int .i64 0, .int .i64 0, .string { data := #[] }, .slice none 0 0, .slice none 0 0] 32)) := (Chg.refl _ _).alloc _
  have hgz : w.heap.size < (w.alloc (.cells #[.int .i64 0, .int .i64 0, .int .i64 0, .int .i64 0, .int .i64 0, .int .i64 0, .string { data := #[] }, .slice none 0 0, .slice none 0 0] 32)).heap.size := by simp
  go_enter Tryz.func30, Tryz.ntmps30
  go_wp2_with (first
    | (go_at_call 64; have hr := r9'.keep (S := fun _ => False) ((Chg.refl _ w9).alloc (.cells #[.int .i64 id, .int .i64 ver, .int .i64 tm, .int .i64 ty, .int .i64 node, .int .i64 m, .string (strOfNums nb), .slice Ad bs.length cd, .slice none 0 0] 32)) (fun h => h) (fun _ _ h => h); (with_reducible refine (gu8_any p A9 c9 l8 r8 _ hr).mono ?_); rw [X9.out]; rintro e w10 ⟨rfl, A10, c10, r10', hb10, hd⟩; have hc9' : Chg (· = p) w1 w10 := (hc9.alloc _).trans hd (fun x hx => .inl hx); have hbE : BoxAt w10 w9.heap.size 32 #[.int .i64 id, .int .i64 ver, .int .i64 tm, .int .i64 ty, .int .i64 node, .int .i64 m, .string (strOfNums nb), .slice Ad bs.length cd, .slice none 0 0] := (BoxAt.new w9 _ _).keep hd (fun (e : w9.heap.size = p) => by have := r9'.lt; omega); have hRd : Rd w10 Ad (bs.map (Value.int .u8)) := (hBd.1.alloc _).keep hd (fun x hx (e : x = p) => by have h1 := hBd.2 x hx; have h2 := r8'.lt; omega); have hAd : ∀ x, blk Ad = some x → w8.heap.size ≤ x := hBd.2; have q0 := hbE.cell 0 rfl; have q1 := hbE.cell 1 rfl; have q2 := hbE.cell 2 rfl; have q3 := hbE.cell 3 rfl; have q4 := hbE.cell 4 rfl; have q5 := hbE.cell 5 rfl; have q6 := hbE.cell 6 rfl; have q7 := hbE.cell 7 rfl; have q8 := hbE.cell 8 rfl)
    | (go_at_call 36; (with_reducible refine (gshort_any p A8 c8 l7 r7 w8 r8').mono ?_); rw [X8.out]; rintro e w9 ⟨Ad, cd, rfl, hcd, hBd, hst⟩; obtain ⟨A9, c9, r9', hb9, hd⟩ := hst; have hc9 : Chg (· = p) w1 w9 := hc8.trans hd (fun x hx => .inl hx); clear hd)
    | (go_at_call 65; (with_reducible refine (gtext_any p A7 c7 l6 r6 w7 r7').mono ?_); rw [X7.out]; rintro e w8 ⟨rfl, hst⟩; obtain ⟨A8, c8, r8', hb8, hd⟩ := hst; have hc8 : Chg (· = p) w1 w8 := hc7.trans hd (fun x hx => .inl hx); clear hd)
    | (go_at_call 63; (with_reducible refine (gu64_any p A6 c6 l5 r5 w6 r6').mono ?_); rw [X6.out]; rintro e w7 ⟨rfl, A7, c7, r7', hb7, hd⟩; have hc7 : Chg (· = p) w1 w7 := hc6.trans hd (fun x hx => .inl hx); clear hd)
    | (go_at_call 64; (with_reducible refine (gu8_any p A5 c5 l4 r4 w5 r5').mono ?_); rw [X5.out]; rintro e w6 ⟨rfl, A6, c6, r6', hb6, hd⟩; have hc6 : Chg (· = p) w1 w6 := hc5.trans hd (fun x hx => .inl hx); clear hd)
    | (go_at_call 64; (with_reducible refine (gu8_any p A4 c4 l3 r3 w4 r4').mono ?_); rw [X4.out]; rintro e w5 ⟨rfl, A5, c5, r5', hb5, hd⟩; have hc5 : Chg (· = p) w1 w5 := hc4.trans hd (fun x hx => .inl hx); clear hd)
    | (go_at_call 63; (with_reducible refine (gu64_any p A3 c3 l2 r2 w3 r3').mono ?_); rw [X3.out]; rintro e w4 ⟨rfl, A4, c4, r4', hb4, hd⟩; have hc4 : Chg (· = p) w1 w4 := hc3.trans hd (fun x hx => .inl hx); clear hd)
    | (go_at_call 63; (with_reducible refine (gu64_any p A2 c2 l1 r1 w2 r2').mono ?_); rw [X2.out]; rintro e w3 ⟨rfl, A3, c3, r3', hb3, hd⟩; have hc3 : Chg (· = p) w1 w3 := hc2.trans hd (fun x hx => .inl hx); clear hd)
    | (go_at_call 34; (with_reducible refine (gu16_any p A1 c1 false xs w1 r1').mono ?_); rw [X1.out]; rintro e w2 ⟨rfl, A2, c2, r2', hb2, hd⟩; have hc2 : Chg (· = p) w1 w2 := hc1.trans hd (fun x hx => .inl hx); clear hd)
    | (go_at_call 33; go_must (refine (newR_any B d n xs _ (HB.out.alloc _) HN.out (by omega) hby).mono ?_; rintro e w1 ⟨p, A1, c1, rfl, r1', hA1, hp, hcw⟩; have hc1 : Chg (· = p) w1 w1 := Chg.refl _ _)))
  have hcA : Chg (fun _ => False) w w10 := (hc0.trans hcw (fun x hx => hx.elim)).trans hc9' (fun x hx => .inr (by rw [hx]; exact Nat.le_trans hc0.size hp))
  have bz10 := (bz.keep hcw (fun h => h)).keep hc9' (fun (e : w.heap.size = p) => by omega)
  go_loopw [6] (fun i w' => i = .int .i64 0 ∧ w' = w10) (fun _ _ => 0)
  case atStart => exact ⟨rfl, rfl⟩
  case round =>
    obtain ⟨rfl, rfl⟩ := hrel
    have hlay := layE_no _ wr _ rfl (hR Ad cd) id ver tm ty node m (strOfNums nb) Ad bs.length cd rfl
    go_wp2_with (go_at_call 22; go_must (refine hlay.mono ?_; rintro e w11 ⟨rfl, hc11⟩; have bz12 := bz10.keep hc11 (fun h => h); have t0 := bz12.cell 0 rfl; have t1 := bz12.cell 1 rfl; have t2 := bz12.cell 2 rfl; have t3 := bz12.cell 3 rfl; have t4 := bz12.cell 4 rfl; have t5 := bz12.cell 5 rfl; have t6 := bz12.cell 6 rfl; have t7 := bz12.cell 7 rfl; have t8 := bz12.cell 8 rfl; have z0 := bz12.fz 0; have z1 := bz12.fz 1; have z2 := bz12.fz 2; have z3 := bz12.fz 3; have z4 := bz12.fz 4; have z5 := bz12.fz 5; have z6 := bz12.fz 6; have z7 := bz12.fz 7; have z8 := bz12.fz 8))
    (try simp only [Exit.inBlock, Exit.then])
    refine bodyPost_ret (results_cell_row_tmp rfl _ _ w.heap.size _ _ _ _ rfl (BoxAt.set9 bz12 _ _ _ _ _ _ _ _ _) Tryz.underlying32 rfl evSize) rfl ?_
    exact ⟨rfl, (hcA.trans hc11 (fun x hx => hx.elim)).trans (chg_set9 w11 w.heap.size _ _ _ _ _ _ _ _ _) (fun x hx => .inr (by rw [hx]; exact Nat.le_refl _))⟩

end Go.Proofs.YtngfimjbgopgjaaGreatDoor
