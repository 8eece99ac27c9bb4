/- Contract of event.Right: of events without Defs, of the types Signaled, Done and none. -/
import Derived.Test.YtngfimjbgopgjaaDoorEvRight
import Derived.Test.YtngfimjbgopgjaaDoorVer
namespace Go.Proofs.YtngfimjbgopgjaaDoor
open Go.RowKit
set_option linter.unusedVariables false

set_option maxHeartbeats 2000000 in
set_option maxRecDepth 20000 in
theorem right_7 (id ver tm : Int) (nm : ByteArray) (A : Option Addr) (n c : Nat) (w : World) (h1 : 1 ≤ id ∧ id ≤ 200) (h2 : rightB ver = true) (h3 : 0 ≤ tm ∧ tm ≤ 1099511627776) (hn : isNameB nm = true) (hd : n ≤ 40) :
    Calls Tryd.prog 10 #[.agg #[.int .i64 id, .int .i64 ver, .int .i64 tm, .int .i64 7, .int .i64 0, .int .i64 0, .string nm, .slice A n c, .slice none 0 0]] w fun e w' => e = .returned (.bool true) ∧ Chg (fun _ => False) w w' := by
  have H2 := Lib.hid h2
  have HN := Lib.hid hn
  clear h2 hn
  have d1 : (decide (1 ≤ id) && decide (id ≤ 200)) = true := by simp; omega
  have d3 : (decide (0 ≤ tm) && decide (tm ≤ 1099511627776)) = true := by simp; omega
  have bE := BoxAt.new w 28 #[.int .i64 id, .int .i64 ver, .int .i64 tm, .int .i64 7, .int .i64 0, .int .i64 0, .string nm, .slice A n c, .slice none 0 0]
  have hc0 : Chg (fun _ => False) w (w.alloc (.cells #[.int .i64 id, .int .i64 ver, .int .i64 tm, .int .i64 7, .int .i64 0, .int .i64 0, .string nm, .slice A n c, .slice none 0 0] 28)) := (Chg.refl _ _).alloc _
  go_enter Tryd.func10, Tryd.ntmps10
  go_wp2_with (first
    | (go_at_call 46; go_must (refine (texts_a _ _ _ _ _ _ _ _ _ nm A n c _ HN.out hd).mono ?_; rintro e w5 ⟨rfl, hc5⟩; have bE5 := bE4.keep hc5 (fun h => h); have bP5 := bP4.keep hc5 (fun h => h); have s3 := bP5.cell 3 rfl; have s8 := bE5.cell 8 rfl))
    | (go_at_call 45; go_must (refine (numbers_a _ _ _ _ _ _ _ _ A n c _).mono ?_; rintro e w4 ⟨rfl, hc4⟩; have bE4 := bE3.keep hc4 (fun h => h); have bP4 := bP3.keep hc4 (fun h => h); have r0 := bE4.cell 0 rfl; have r1 := bE4.cell 1 rfl; have r2 := bE4.cell 2 rfl; have r3 := bE4.cell 3 rfl; have r4 := bE4.cell 4 rfl; have r5 := bE4.cell 5 rfl; have r6 := bE4.cell 6 rfl; have r7 := bE4.cell 7 rfl; have r8 := bE4.cell 8 rfl; have t0 := bP4.cell 0 rfl; have t1 := bP4.cell 1 rfl; have t2 := bP4.cell 2 rfl; have t3 := bP4.cell 3 rfl; have t4 := bP4.cell 4 rfl))
    | (go_at_call 44; go_must (refine (right_any _ _).mono ?_; rintro e w' ⟨rfl, rfl⟩; rw [H2.out]))
    | (go_at_call 43; ((with_reducible refine (within_any tm _ _ _).mono ?_); rintro e w' ⟨rfl, rfl⟩; rw [d3]))
    | (go_at_call 43; go_must (refine (within_any id _ _ _).mono ?_; rintro e w' ⟨rfl, rfl⟩; rw [d1]))
    | (go_at_call 42; go_must (refine (named_7 _).mono ?_; rintro e w2 ⟨rfl, hc2⟩; have bE2 := bE.keep hc2 (fun h => h); have bP3 := BoxAt.new w2 69 #[.bool false, .bool true, .bool true, .bool false, .int .i64 0]; have bE3 := bE2.keep (S := fun _ => False) ((Chg.refl _ _).alloc (.cells #[.bool false, .bool true, .bool true, .bool false, .int .i64 0] 69)) (fun h => h); have q0 := bE3.cell 0 rfl; have q1 := bE3.cell 1 rfl; have q2 := bE3.cell 2 rfl; have q3 := bE3.cell 3 rfl; have q4 := bE3.cell 4 rfl; have q5 := bE3.cell 5 rfl; have q6 := bE3.cell 6 rfl; have q7 := bE3.cell 7 rfl; have q8 := bE3.cell 8 rfl; have p0 := bP3.cell 0 rfl; have p1 := bP3.cell 1 rfl; have p2 := bP3.cell 2 rfl; have p3 := bP3.cell 3 rfl; have p4 := bP3.cell 4 rfl)))
  go_ret
  exact ⟨rfl, (((hc0.trans hc2 (fun x hx => hx.elim)).alloc _).trans hc4 (fun x hx => hx.elim)).trans hc5 (fun x hx => hx.elim)⟩
set_option maxHeartbeats 2000000 in
set_option maxRecDepth 20000 in
theorem right_3 (id ver tm node m : Int) (A : Option Addr) (n c : Nat) (w : World) (h1 : 1 ≤ id ∧ id ≤ 200) (h2 : rightB ver = true) (h3 : 0 ≤ tm ∧ tm ≤ 1099511627776) (h4 : 0 ≤ node ∧ node ≤ 7) (hd : n ≤ 40) :
    Calls Tryd.prog 10 #[.agg #[.int .i64 id, .int .i64 ver, .int .i64 tm, .int .i64 3, .int .i64 node, .int .i64 m, .string { data := #[] }, .slice A n c, .slice none 0 0]] w fun e w' => e = .returned (.bool (decide (1 ≤ m) && decide (m ≤ 5))) ∧ Chg (fun _ => False) w w' := by
  have H2 := Lib.hid h2
  clear h2
  have d1 : (decide (1 ≤ id) && decide (id ≤ 200)) = true := by simp; omega
  have d3 : (decide (0 ≤ tm) && decide (tm ≤ 1099511627776)) = true := by simp; omega
  have bE := BoxAt.new w 28 #[.int .i64 id, .int .i64 ver, .int .i64 tm, .int .i64 3, .int .i64 node, .int .i64 m, .string { data := #[] }, .slice A n c, .slice none 0 0]
  have hc0 : Chg (fun _ => False) w (w.alloc (.cells #[.int .i64 id, .int .i64 ver, .int .i64 tm, .int .i64 3, .int .i64 node, .int .i64 m, .string { data := #[] }, .slice A n c, .slice none 0 0] 28)) := (Chg.refl _ _).alloc _
  obtain ⟨bb, hbb⟩ : ∃ bb, (decide (1 ≤ m) && decide (m ≤ 5)) = bb := ⟨_, rfl⟩
  rw [hbb]
  cases bb
  all_goals
    go_enter Tryd.func10, Tryd.ntmps10
    go_wp2_with (first
      | (go_at_call 46; go_must (refine (texts_b _ _ _ _ _ _ _ _ _ A n c _ hd).mono ?_; rintro e w5 ⟨rfl, hc5⟩; have bE5 := bE4.keep hc5 (fun h => h); have bP5 := bP4.keep hc5 (fun h => h); have s3 := bP5.cell 3 rfl; have s8 := bE5.cell 8 rfl))
      | (go_at_call 45; go_must (refine (numbers_b _ _ _ _ _ _ _ node m _ A n c _ h4.1 h4.2).mono ?_; rintro e w4 ⟨rfl, hc4⟩; rw [hbb]; have bE4 := bE3.keep hc4 (fun h => h); have bP4 := bP3.keep hc4 (fun h => h); have r0 := bE4.cell 0 rfl; have r1 := bE4.cell 1 rfl; have r2 := bE4.cell 2 rfl; have r3 := bE4.cell 3 rfl; have r4 := bE4.cell 4 rfl; have r5 := bE4.cell 5 rfl; have r6 := bE4.cell 6 rfl; have r7 := bE4.cell 7 rfl; have r8 := bE4.cell 8 rfl; have t0 := bP4.cell 0 rfl; have t1 := bP4.cell 1 rfl; have t2 := bP4.cell 2 rfl; have t3 := bP4.cell 3 rfl; have t4 := bP4.cell 4 rfl))
      | (go_at_call 44; go_must (refine (right_any _ _).mono ?_; rintro e w' ⟨rfl, rfl⟩; rw [H2.out]))
      | (go_at_call 43; ((with_reducible refine (within_any tm _ _ _).mono ?_); rintro e w' ⟨rfl, rfl⟩; rw [d3]))
      | (go_at_call 43; go_must (refine (within_any id _ _ _).mono ?_; rintro e w' ⟨rfl, rfl⟩; rw [d1]))
      | (go_at_call 42; go_must (refine (named_3 _).mono ?_; rintro e w2 ⟨rfl, hc2⟩; have bE2 := bE.keep hc2 (fun h => h); have bP3 := BoxAt.new w2 69 #[.bool true, .bool false, .bool true, .bool false, .int .i64 5]; have bE3 := bE2.keep (S := fun _ => False) ((Chg.refl _ _).alloc (.cells #[.bool true, .bool false, .bool true, .bool false, .int .i64 5] 69)) (fun h => h); have q0 := bE3.cell 0 rfl; have q1 := bE3.cell 1 rfl; have q2 := bE3.cell 2 rfl; have q3 := bE3.cell 3 rfl; have q4 := bE3.cell 4 rfl; have q5 := bE3.cell 5 rfl; have q6 := bE3.cell 6 rfl; have q7 := bE3.cell 7 rfl; have q8 := bE3.cell 8 rfl; have p0 := bP3.cell 0 rfl; have p1 := bP3.cell 1 rfl; have p2 := bP3.cell 2 rfl; have p3 := bP3.cell 3 rfl; have p4 := bP3.cell 4 rfl)))
    go_ret
    exact ⟨rfl, by first | exact (((hc0.trans hc2 (fun x hx => hx.elim)).alloc _).trans hc4 (fun x hx => hx.elim)).trans hc5 (fun x hx => hx.elim) | exact ((hc0.trans hc2 (fun x hx => hx.elim)).alloc _).trans hc4 (fun x hx => hx.elim)⟩
set_option maxHeartbeats 1000000 in
set_option maxRecDepth 20000 in
theorem right_0 (id ver tm node m : Int) (nm : ByteArray) (A : Option Addr) (n c : Nat) (w : World) :
    Calls Tryd.prog 10 #[.agg #[.int .i64 id, .int .i64 ver, .int .i64 tm, .int .i64 0, .int .i64 node, .int .i64 m, .string nm, .slice A n c, .slice none 0 0]] w fun e w' => e = .returned (.bool false) ∧ Chg (fun _ => False) w w' := by
  go_enter Tryd.func10, Tryd.ntmps10
  go_wp2_with (go_at_call 42; go_must (refine (named_0 _).mono ?_; rintro e w2 ⟨rfl, hc2⟩))
  go_ret
  exact ⟨rfl, (((Chg.refl _ _).alloc _).trans hc2 (fun x hx => hx.elim)).alloc _⟩
end Go.Proofs.YtngfimjbgopgjaaDoor
