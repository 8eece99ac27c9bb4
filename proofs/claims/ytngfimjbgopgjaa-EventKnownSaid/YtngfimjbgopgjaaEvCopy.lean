/- Contracts of event.Copy, LayAll, Line at what EventKnown hands them. -/
import Derived.Test.YtngfimjbgopgjaaEvSame
namespace Go.Proofs.Ytngfimjbgopgjaa
open Go.RowKit
set_option linter.unusedVariables false

set_option maxRecDepth 20000 in
theorem cloneDefs_nil (w : World) : Calls Try.prog 119 #[.slice none 0 0] w fun e w' => e = .returned (.slice none 0 0) ∧ w = w' := by
  have q : ∀ (w : World) (a : Option Addr) (n c n' c' : Nat), (binOp .eql 48 (.slice a n c) (.slice none n' c')).run Try.prog w = .ok (.bool a.isNone) w := fun w a n c n' c' => Lib.run_eql_slice_nil w _ _ a n c n' c' Try.underlying48
  go_enter Try.func119, Try.ntmps119
  go_wp2_with fail
  go_ret
  exact ⟨rfl, rfl⟩
theorem layAll_no (A : Option Addr) (n c : Nat) (w : World) (h : 200 < n) : Calls Try.prog 99 #[.slice A n c] w fun e w' => e = .returned (.tuple #[.slice none 0 0, .int .i64 1]) ∧ w = w' := by
  have h1 : (200 : Int) < (n : Int) := by omega
  go_enter Try.func99, Try.ntmps99
  go_wp2_with fail
  go_ret2
  exact ⟨rfl, rfl⟩
theorem line_nil (w : World) : Calls Try.prog 100 #[.slice none 0 0] w fun e w' => e = .returned (.bool true) ∧ w = w' := by
  go_enter Try.func100, Try.ntmps100
  go_wp2_with fail
  go_loopw [7] (fun i w' => i = .int .i64 0 ∧ w' = w) (fun _ _ => 0)
  case atStart => exact ⟨rfl, rfl⟩
  case round =>
    obtain ⟨rfl, rfl⟩ := hrel
    go_wp2_with fail
    go_ret
    exact ⟨rfl, rfl⟩

set_option maxHeartbeats 2000000 in
set_option maxRecDepth 20000 in
/-- One event that is right is a line; the same one twice is none. -/
theorem line_12 (b o n : Nat) (hn : n = 1 ∨ n = 2) (c : Nat) (id ver tm ty node m : Int) (nm : ByteArray) (A : Option Addr) (l d : Nat) (w : World) (h : ∀ k, k < n → ∀ j u, #[Value.int .i64 id, .int .i64 ver, .int .i64 tm, .int .i64 ty, .int .i64 node, .int .i64 m, .string nm, .slice A l d, .slice none 0 0][j]? = some u → w.cell? ⟨b, o + k * 9 + j, none⟩ = some u) (hid : 0 ≤ id ∧ id ≤ 1000)
    (hR : ∀ w', Calls Try.prog 121 #[.agg #[.int .i64 id, .int .i64 ver, .int .i64 tm, .int .i64 ty, .int .i64 node, .int .i64 m, .string nm, .slice A l d, .slice none 0 0]] w' fun e w'' => e = .returned (.bool true) ∧ Chg (fun _ => False) w' w'') :
    Calls Try.prog 100 #[.slice (some ⟨b, o, none⟩) n c] w fun e w' => e = .returned (.bool (decide (n = 1))) ∧ Chg (fun _ => False) w w' := by
  have HH := Lib.hid h
  clear h
  go_enter Try.func100, Try.ntmps100
  go_wp2_with fail
  go_loopw [7] (fun i w' => ∃ k : Nat, k ≤ 1 ∧ k ≤ n ∧ i = .int .i64 k ∧ Chg (fun _ => False) w w') (fun i _ => 2 - (intOf i).toNat)
  case atStart => exact ⟨0, by omega, by omega, rfl, Chg.refl _ _⟩
  case round =>
    obtain ⟨k, hk1, hkn, rfl, hc⟩ := hrel
    by_cases hkn2 : k < n
    · have j0 : (0 : Int) ≤ (k : Int) := by omega
      have j1 : (k : Int) < (n : Int) := by omega
      have cl : ∀ w', Chg (fun _ => False) w w' → ∀ i, i < n → ∀ j u, #[Value.int .i64 id, .int .i64 ver, .int .i64 tm, .int .i64 ty, .int .i64 node, .int .i64 m, .string nm, .slice A l d, .slice none 0 0][j]? = some u → w'.cell? ⟨b, o + i * 9 + j, none⟩ = some u := fun w' hw i hi j u hu => hw.cell_some (HH.out i hi j u hu) (fun h => h)
      have q0 := cl _ hc k hkn2 0 _ rfl
      have q1 := cl _ hc k hkn2 1 _ rfl
      have q2 := cl _ hc k hkn2 2 _ rfl
      have q3 := cl _ hc k hkn2 3 _ rfl
      have q4 := cl _ hc k hkn2 4 _ rfl
      have q5 := cl _ hc k hkn2 5 _ rfl
      have q6 := cl _ hc k hkn2 6 _ rfl
      have q7 := cl _ hc k hkn2 7 _ rfl
      have q8 := cl _ hc k hkn2 8 _ rfl
      rw [Nat.add_zero] at q0
      have bE := BoxAt.new wr 50 #[.int .i64 id, .int .i64 ver, .int .i64 tm, .int .i64 ty, .int .i64 node, .int .i64 m, .string nm, .slice A l d, .slice none 0 0]
      have hcE : Chg (fun _ => False) w (wr.alloc (.cells #[.int .i64 id, .int .i64 ver, .int .i64 tm, .int .i64 ty, .int .i64 node, .int .i64 m, .string nm, .slice A l d, .slice none 0 0] 50)) := hc.alloc _
      rcases (by omega : k = 0 ∨ k = 1) with rfl | rfl
      · simp only [Nat.zero_mul, Nat.add_zero] at q0 q1 q2 q3 q4 q5 q6 q7 q8
        go_wp2_with (go_at_call 121; go_must (refine (hR _).mono ?_; rintro e w2 ⟨rfl, hc2⟩; have hcw := hcE.trans hc2 (fun x hx => hx.elim); have r0 := (bE.keep hc2 (fun h => h)).cell 0 rfl))
        go_quiet (fail)
        go_wp2_with fail
        go_roundw
        case rel => exact ⟨1, by omega, by omega, by go_num, hcw.drewN _⟩
        case measure => simp [intOf]
      · have p0 := cl _ hc 0 (by omega) 0 _ rfl
        simp only [Nat.zero_mul, Nat.one_mul, Nat.add_zero] at p0 q0 q1 q2 q3 q4 q5 q6 q7 q8
        have hn2 : n = 2 := by omega
        subst hn2
        have hwr : IntKind.i64.wrap (id + 1) = id + 1 := IntWalk.i64_in _ (by omega)
        have hne : (id != id + 1) = true := by simp; omega
        have hne2 : decide (id = id + 1) = false := by simp; omega
        go_wp2_with (go_at_call 121; go_must (refine (hR _).mono ?_; rintro e w2 ⟨rfl, hc2⟩; have hcw := hcE.trans hc2 (fun x hx => hx.elim); have r0 := (bE.keep hc2 (fun h => h)).cell 0 rfl; have p0' := cl _ hcw 0 (by omega) 0 _ rfl; simp only [Nat.zero_mul, Nat.add_zero] at p0'))
        go_quiet (fail)
        go_wp2_with fail
        go_ret
        exact ⟨rfl, hcw.drewN _⟩
    · have hke : k = 1 := by omega
      subst hke
      have hn1 : n = 1 := by omega
      subst hn1
      go_wp2_with fail
      go_ret
      exact ⟨rfl, hc⟩

set_option maxHeartbeats 2000000 in
set_option maxRecDepth 20000 in
theorem copyE_any (id ver tm ty node m : Int) (nm : ByteArray) (A : Option Addr) (n c : Nat) (bs : List Int) (w : World) (h : Rd w A (bs.map (Value.int .u8))) (hn : bs.length = n) (hn2 : n ≤ 1000) :
    Calls Try.prog 96 #[.agg #[.int .i64 id, .int .i64 ver, .int .i64 tm, .int .i64 ty, .int .i64 node, .int .i64 m, .string nm, .slice A n c, .slice none 0 0]] w fun e w' => ∃ A' c', e = .returned (.agg #[.int .i64 id, .int .i64 ver, .int .i64 tm, .int .i64 ty, .int .i64 node, .int .i64 m, .string nm, .slice A' n c', .slice none 0 0]) ∧ w'.ownsRow w.heap.size 5 1 (.slice A' n c') n (bs.map (Value.int .u8)) ∧ Chg (fun _ => False) w w' := by
  have bP := two_P w 50 50 #[.int .i64 id, .int .i64 ver, .int .i64 tm, .int .i64 ty, .int .i64 node, .int .i64 m, .string nm, .slice A n c, .slice none 0 0] #[.int .i64 0, .int .i64 0, .int .i64 0, .int .i64 0, .int .i64 0, .int .i64 0, .string { data := #[] }, .slice none 0 0, .slice none 0 0]
  have bE := two_E w 50 50 #[.int .i64 id, .int .i64 ver, .int .i64 tm, .int .i64 ty, .int .i64 node, .int .i64 m, .string nm, .slice A n c, .slice none 0 0] #[.int .i64 0, .int .i64 0, .int .i64 0, .int .i64 0, .int .i64 0, .int .i64 0, .string { data := #[] }, .slice none 0 0, .slice none 0 0]
  go_enter Try.func96, Try.ntmps96
  go_wp2_with fail
  obtain ⟨w1, hw1⟩ : ∃ w1, w1 = (w.alloc (.cells #[.int .i64 id, .int .i64 ver, .int .i64 tm, .int .i64 ty, .int .i64 node, .int .i64 m, .string nm, .slice A n c, .slice none 0 0] 50)).alloc (.cells #[.int .i64 0, .int .i64 0, .int .i64 0, .int .i64 0, .int .i64 0, .int .i64 0, .string { data := #[] }, .slice none 0 0, .slice none 0 0] 50) := ⟨_, rfl⟩
  have hc1 : Chg (fun _ => False) w w1 := by rw [hw1]; exact ((Chg.refl _ _).alloc _).alloc _
  have hr1 : Rd w1.drew A (bs.map (Value.int .u8)) := h.keep hc1.drew (fun _ _ h => h)
  have hsz1 : w1.heap.size = w.heap.size + 2 := by rw [hw1]; simp
  obtain ⟨g, hg⟩ : ∃ g, g = w.heap.size := ⟨_, rfl⟩
  rw [← hw1] at bP bE ⊢
  rw [← hg] at bP bE hsz1 ⊢
  have HG := Lib.hid hg
  have HS := Lib.hid hsz1
  clear hw1 hg hsz1
  have q7 := bP.cell 7 rfl
  have q8 := bP.cell 8 rfl
  go_region_law (first
    | (go_simp; go_at_call 119; go_must (refine (cloneDefs_nil _).mono ?_; rintro e w' ⟨rfl, rfl⟩))
    | (go_simp; go_at_call 118; go_must (refine (cloneB_own A n c bs _ hr1 hn (by omega)).mono ?_; rintro e w2 ⟨A2, c2, rfl, ho2, hc2⟩; have hc12 : Chg (fun _ => False) w1 w2 := ((Chg.refl _ _).drew).trans hc2 (fun x hx => hx.elim); have bP2 := bP.keep hc12 (fun h => h); have s7 := bP2.cell 7 rfl; have s8 := bP2.cell 8 rfl; have z7 := bP2.fz 7; have z8 := bP2.fz 8)))
  all_goals
    clear q7 q8 s7 s8 z7 z8
    obtain ⟨w3, hw3⟩ : ∃ w3, w3 = (w2.setCell ⟨g, 7, none⟩ (.slice A2 n c2)).setCell ⟨g, 8, none⟩ (.slice none 0 0) := ⟨_, rfl⟩
    rw [← hw3]
    have b3 : BoxAt w3 g 50 #[.int .i64 id, .int .i64 ver, .int .i64 tm, .int .i64 ty, .int .i64 node, .int .i64 m, .string nm, .slice A2 n c2, .slice none 0 0] := by
      rw [hw3]
      unfold BoxAt at *
      simp [World.setCell, Array.getElem?_modify, bP2]
    have hc23 : Chg (fun x => x = g) w2 w3 := by rw [hw3]; exact ((Chg.refl (fun x => x = g) w2).setCell (p := ⟨g, 7, none⟩) (.inl rfl) _).setCell (p := ⟨g, 8, none⟩) (.inl rfl) _
    have bE3 := (bE.keep hc12 (fun h => h)).keep hc23 (by omega)
    have hA2 : ∀ x, blk A2 = some x → w1.heap.size ≤ x := fun x hx => (own_lt ho2 hx).1
    have ho3 : w3.ownsRow w1.heap.size 5 1 (.slice A2 n c2) n (bs.map (Value.int .u8)) := hc23.ownS ho2 (fun x hx (e : x = g) => by have h1 := hA2 x hx; have h2 := HS.out; omega)
    clear hw3
    have s0 := b3.cell 0 rfl
    have s1 := b3.cell 1 rfl
    have s2 := b3.cell 2 rfl
    have s3 := b3.cell 3 rfl
    have s4 := b3.cell 4 rfl
    have s5 := b3.cell 5 rfl
    have s6 := b3.cell 6 rfl
    have s7 := b3.cell 7 rfl
    have s8 := b3.cell 8 rfl
    have t0 := bE3.cell 0 rfl
    have t1 := bE3.cell 1 rfl
    have t2 := bE3.cell 2 rfl
    have t3 := bE3.cell 3 rfl
    have t4 := bE3.cell 4 rfl
    have t5 := bE3.cell 5 rfl
    have t6 := bE3.cell 6 rfl
    have t7 := bE3.cell 7 rfl
    have t8 := bE3.cell 8 rfl
    have z0 := bE3.fz 0
    have z1 := bE3.fz 1
    have z2 := bE3.fz 2
    have z3 := bE3.fz 3
    have z4 := bE3.fz 4
    have z5 := bE3.fz 5
    have z6 := bE3.fz 6
    have z7 := bE3.fz 7
    have z8 := bE3.fz 8
    go_wp2_with fail
    go_loopw [15] (fun i w' => i = .int .i64 0 ∧ w' = w3) (fun _ _ => 0)
    case atStart => exact ⟨rfl, rfl⟩
    case round =>
      obtain ⟨rfl, rfl⟩ := hrel
      go_wp2_with fail
      (try simp only [Exit.inBlock, Exit.then])
      refine bodyPost_ret (results_cell_row rfl _ _ (g + 1) _ _ _ _ rfl (BoxAt.set9 bE3 _ _ _ _ _ _ _ _ _) Try.underlying50 rfl evSize) rfl ?_
      have hcS := chg_set9 wr (g + 1) (.int .i64 id) (.int .i64 ver) (.int .i64 tm) (.int .i64 ty) (.int .i64 node) (.int .i64 m) (.string nm) (.slice A2 n c2) (.slice none 0 0)
      exact ⟨A2, c2, rfl, own_mono (hcS.ownS ho3 (fun x hx (e : x = g + 1) => by have h1 := hA2 x hx; have h2 := HS.out; omega)) (by have := HS.out; have := HG.out; omega), ((hc1.trans hc12 (fun x hx => hx.elim)).trans hc23 (fun x hx => .inr (by rw [hx, HG.out]; exact Nat.le_refl _))).trans hcS (fun x hx => .inr (by rw [hx, HG.out]; exact Nat.le_succ _))⟩
end Go.Proofs.Ytngfimjbgopgjaa
