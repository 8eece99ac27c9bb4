/- EvRight, EvRight2, in one text (merge.py). -/
import Derived.Test.YtngfimjbgopgjaaGreatDoorEvName
import Derived.Test.YtngfimjbgopgjaaGreatDoorNetAll
import Derived.Test.YtngfimjbgopgjaaGreatDoorVer
/- Contracts of event.within, named, numbers, texts, Right: of events without Defs, of the types Signaled, Done and none. -/
namespace Go.Proofs.YtngfimjbgopgjaaGreatDoor
open Go.RowKit
set_option linter.unusedVariables false

/-- A block of cells. -/
def BoxAt (w : World) (g : Nat) (T : TypeId) (r : Array Value) : Prop := w.heap[g]? = some (.cells r T (0, 0))
section
variable {w w' : World} {g : Nat} {T : TypeId} {r : Array Value}
theorem BoxAt.new (w : World) (T : TypeId) (r : Array Value) : BoxAt (w.alloc (.cells r T)) w.heap.size T r := heap_alloc_new w _
theorem BoxAt.cell (h : BoxAt w g T r) (k : Nat) {u : Value} (hu : r[k]? = some u) : w.cell? ⟨g, k, none⟩ = some u := by rw [cell_of_row w g k r T (0, 0) h]; exact hu
theorem BoxAt.fz (h : BoxAt w g T r) (k : Nat) : w.frozen? ⟨g, k, none⟩ = false := by unfold BoxAt at h; simp [World.frozen?, h]
theorem BoxAt.lt (h : BoxAt w g T r) : g < w.heap.size := (Array.getElem?_eq_some_iff.1 h).1
theorem BoxAt.keep {S : Nat → Prop} (h : BoxAt w g T r) (hc : Chg S w w') (hg : ¬ S g) : BoxAt w' g T r := hc.heap_some h hg
theorem BoxAt.set (h : BoxAt w g T r) (k : Nat) (u : Value) : BoxAt (w.setCell ⟨g, k, none⟩ u) g T (r.setIfInBounds k u) := by
  unfold BoxAt at *
  simp [World.setCell, Array.getElem?_modify, h]
end
theorem two_P (w : World) (T U : TypeId) (r q : Array Value) : BoxAt ((w.alloc (.cells r T)).alloc (.cells q U)) w.heap.size T r := (BoxAt.new w T r).keep (S := fun _ => False) ((Chg.refl _ _).alloc _) (fun h => h)
theorem two_E (w : World) (T U : TypeId) (r q : Array Value) : BoxAt ((w.alloc (.cells r T)).alloc (.cells q U)) (w.heap.size + 1) U q := by
  have h := BoxAt.new (w.alloc (.cells r T)) U q
  rwa [show (w.alloc (.cells r T)).heap.size = w.heap.size + 1 from Array.size_push ..] at h
theorem within_any (n lo hi : Int) (w : World) : Calls Tryz.prog 55 #[.int .i64 n, .int .i64 lo, .int .i64 hi] w fun e w' => e = .returned (.bool (decide (lo ≤ n) && decide (n ≤ hi))) ∧ w = w' := by
  by_cases h1 : lo ≤ n
  · have d1 : decide (lo ≤ n) = true := by simpa using h1
    go_enter Tryz.func55, Tryz.ntmps55
    go_wp2_with fail
    go_ret
    exact ⟨by simp [h1], rfl⟩
  · have d1 : decide (lo ≤ n) = false := by simpa using h1
    go_enter Tryz.func55, Tryz.ntmps55
    go_wp2_with fail
    go_ret
    have : (decide (lo ≤ n) && decide (n ≤ hi)) = false := by rw [Bool.and_eq_false_iff, decide_eq_false_iff_not]; exact .inl (by omega)
    exact ⟨by simp only [Ending.returned.injEq, Value.bool.injEq] at *; first | (rw [this]; rfl) | (symm; exact congrArg Value.bool this) | rfl, rfl⟩

theorem partsSize : (Tryz.prog.info? 93).map (·.size) = some 5 := by kernel_rfl
set_option maxHeartbeats 1000000 in
set_option maxRecDepth 20000 in
theorem named_7 (w : World) : Calls Tryz.prog 54 #[.int .i64 7] w fun e w' => e = .returned (.tuple #[.agg #[.bool false, .bool true, .bool true, .bool false, .int .i64 0], .bool true]) ∧ Chg (fun _ => False) w w' := by
  go_enter Tryz.func54, Tryz.ntmps54
  go_wp2_with fail
  refine bodyPost_ret (results_cell_row_tmp rfl _ _ w.heap.size _ _ _ _ rfl (BoxAt.new w 93 #[.bool false, .bool true, .bool true, .bool false, .int .i64 0]) Tryz.underlying93 rfl partsSize) rfl ?_
  exact ⟨rfl, (Chg.refl _ _).alloc _⟩
set_option maxHeartbeats 1000000 in
set_option maxRecDepth 20000 in
theorem named_3 (w : World) : Calls Tryz.prog 54 #[.int .i64 3] w fun e w' => e = .returned (.tuple #[.agg #[.bool true, .bool false, .bool true, .bool false, .int .i64 5], .bool true]) ∧ Chg (fun _ => False) w w' := by
  go_enter Tryz.func54, Tryz.ntmps54
  go_wp2_with fail
  refine bodyPost_ret (results_cell_row_tmp rfl _ _ w.heap.size _ _ _ _ rfl (BoxAt.new w 93 #[.bool true, .bool false, .bool true, .bool false, .int .i64 5]) Tryz.underlying93 rfl partsSize) rfl ?_
  exact ⟨rfl, (Chg.refl _ _).alloc _⟩
set_option maxHeartbeats 1000000 in
set_option maxRecDepth 20000 in
theorem named_0 (w : World) : Calls Tryz.prog 54 #[.int .i64 0] w fun e w' => e = .returned (.tuple #[.agg #[.bool false, .bool false, .bool false, .bool false, .int .i64 0], .bool false]) ∧ Chg (fun _ => False) w w' := by
  go_enter Tryz.func54, Tryz.ntmps54
  go_wp2_with fail
  refine bodyPost_ret (results_cell_row_tmp rfl _ _ w.heap.size _ _ _ _ rfl (BoxAt.new w 93 #[.bool false, .bool false, .bool false, .bool false, .int .i64 0]) Tryz.underlying93 rfl partsSize) rfl ?_
  exact ⟨rfl, (Chg.refl _ _).alloc _⟩

set_option maxHeartbeats 1000000 in
set_option maxRecDepth 20000 in
/-- A type that names no node and no number. -/
theorem numbers_a (b1 b2 b3 : Bool) (id ver tm ty : Int) (nm : ByteArray) (A : Option Addr) (n c : Nat) (w : World) : Calls Tryz.prog 57 #[.agg #[.bool false, .bool b1, .bool b2, .bool b3, .int .i64 0], .agg #[.int .i64 id, .int .i64 ver, .int .i64 tm, .int .i64 ty, .int .i64 0, .int .i64 0, .string nm, .slice A n c, .slice none 0 0]] w fun e w' => e = .returned (.bool true) ∧ Chg (fun _ => False) w w' := by
  go_enter Tryz.func57, Tryz.ntmps57
  go_wp2_with (go_at_call 55; go_must (refine (within_any _ _ _ _).mono ?_; rintro e w' ⟨rfl, rfl⟩))
  go_ret
  exact ⟨by simp, ((Chg.refl _ _).alloc _).alloc _⟩
set_option maxHeartbeats 1000000 in
set_option maxRecDepth 20000 in
/-- A type that names a node and a try. -/
theorem numbers_b (b1 b2 b3 : Bool) (id ver tm ty node m : Int) (nm : ByteArray) (A : Option Addr) (n c : Nat) (w : World) (h0 : 0 ≤ node) (h1 : node ≤ 7) : Calls Tryz.prog 57 #[.agg #[.bool true, .bool b1, .bool b2, .bool b3, .int .i64 5], .agg #[.int .i64 id, .int .i64 ver, .int .i64 tm, .int .i64 ty, .int .i64 node, .int .i64 m, .string nm, .slice A n c, .slice none 0 0]] w fun e w' => e = .returned (.bool (decide (1 ≤ m) && decide (m ≤ 5))) ∧ Chg (fun _ => False) w w' := by
  go_enter Tryz.func57, Tryz.ntmps57
  go_wp2_with (go_at_call 55; go_must (refine (within_any _ _ _ _).mono ?_; rintro e w' ⟨rfl, rfl⟩))
  go_ret
  exact ⟨rfl, ((Chg.refl _ _).alloc _).alloc _⟩
set_option maxHeartbeats 1000000 in
set_option maxRecDepth 20000 in
/-- A type that names a name and data. -/
theorem texts_a (b0 b3 : Bool) (k : Int) (id ver tm ty node m : Int) (nm : ByteArray) (A : Option Addr) (n c : Nat) (w : World) (hn : isNameB nm = true) (hd : n ≤ 40) : Calls Tryz.prog 58 #[.agg #[.bool b0, .bool true, .bool true, .bool b3, .int .i64 k], .agg #[.int .i64 id, .int .i64 ver, .int .i64 tm, .int .i64 ty, .int .i64 node, .int .i64 m, .string nm, .slice A n c, .slice none 0 0]] w fun e w' => e = .returned (.bool true) ∧ Chg (fun _ => False) w w' := by
  have hs : nm.size ≤ 16 ∧ 1 ≤ nm.size := by
    simp only [isNameB, Bool.and_eq_true, decide_eq_true_eq] at hn
    omega
  have hm0 : nm.toList.isEmpty = false := str_ne (by omega)
  have HN := Lib.hid hn
  clear hn
  have bP := two_P w 93 32 #[.bool b0, .bool true, .bool true, .bool b3, .int .i64 k] #[.int .i64 id, .int .i64 ver, .int .i64 tm, .int .i64 ty, .int .i64 node, .int .i64 m, .string nm, .slice A n c, .slice none 0 0]
  have bE := two_E w 93 32 #[.bool b0, .bool true, .bool true, .bool b3, .int .i64 k] #[.int .i64 id, .int .i64 ver, .int .i64 tm, .int .i64 ty, .int .i64 node, .int .i64 m, .string nm, .slice A n c, .slice none 0 0]
  have hc0 : Chg (fun _ => False) w ((w.alloc (.cells #[.bool b0, .bool true, .bool true, .bool b3, .int .i64 k] 93)).alloc (.cells #[.int .i64 id, .int .i64 ver, .int .i64 tm, .int .i64 ty, .int .i64 node, .int .i64 m, .string nm, .slice A n c, .slice none 0 0] 32)) := ((Chg.refl _ _).alloc _).alloc _
  have hd' : (n : Int) ≤ 40 := by omega
  rcases n with _ | n
  · go_enter Tryz.func58, Tryz.ntmps58
    go_wp2_with (go_at_call 31; go_must (refine (isName_any nm _ (by omega)).mono ?_; rintro e w2 ⟨rfl, hc⟩; rw [HN.out]; have q7 := (bE.keep hc (fun h => h)).cell 7 rfl))
    go_ret
    exact ⟨rfl, hc0.trans hc (fun x hx => hx.elim)⟩
  · have hnz : ((n : Int) + 1 == 0) = false := by simp; omega
    have hnz2 : ((n : Int) + 1 = 0) = False := by simp; omega
    go_enter Tryz.func58, Tryz.ntmps58
    go_wp2_with (go_at_call 31; go_must (refine (isName_any nm _ (by omega)).mono ?_; rintro e w2 ⟨rfl, hc⟩; rw [HN.out]; have q7 := (bE.keep hc (fun h => h)).cell 7 rfl; have p2 := (bP.keep hc (fun h => h)).cell 2 rfl))
    go_ret
    exact ⟨by simp; omega, hc0.trans hc (fun x hx => hx.elim)⟩
set_option maxHeartbeats 1000000 in
set_option maxRecDepth 20000 in
/-- A type that names data and no name. -/
theorem texts_b (b0 b3 : Bool) (k : Int) (id ver tm ty node m : Int) (A : Option Addr) (n c : Nat) (w : World) (hd : n ≤ 40) : Calls Tryz.prog 58 #[.agg #[.bool b0, .bool false, .bool true, .bool b3, .int .i64 k], .agg #[.int .i64 id, .int .i64 ver, .int .i64 tm, .int .i64 ty, .int .i64 node, .int .i64 m, .string { data := #[] }, .slice A n c, .slice none 0 0]] w fun e w' => e = .returned (.bool true) ∧ Chg (fun _ => False) w w' := by
  have hd' : (n : Int) ≤ 40 := by omega
  rcases n with _ | n
  · go_enter Tryz.func58, Tryz.ntmps58
    go_wp2_with fail
    go_ret
    exact ⟨rfl, ((Chg.refl _ _).alloc _).alloc _⟩
  · have hnz : ((n : Int) + 1 == 0) = false := by simp; omega
    have hnz2 : ((n : Int) + 1 = 0) = False := by simp; omega
    go_enter Tryz.func58, Tryz.ntmps58
    go_wp2_with fail
    go_ret
    exact ⟨by simp; omega, ((Chg.refl _ _).alloc _).alloc _⟩
end Go.Proofs.YtngfimjbgopgjaaGreatDoor

/- Contract of event.Right: of events without Defs, of the types Signaled, Done and none. -/
namespace Go.Proofs.YtngfimjbgopgjaaGreatDoor
open Go.RowKit
set_option linter.unusedVariables false

set_option maxHeartbeats 2000000 in
set_option maxRecDepth 20000 in
theorem right_7 (id ver tm : Int) (nm : ByteArray) (A : Option Addr) (n c : Nat) (w : World) (h1 : 1 ≤ id ∧ id ≤ 200) (h2 : rightB ver = true) (h3 : 0 ≤ tm ∧ tm ≤ 1099511627776) (hn : isNameB nm = true) (hd : n ≤ 40) :
    Calls Tryz.prog 28 #[.agg #[.int .i64 id, .int .i64 ver, .int .i64 tm, .int .i64 7, .int .i64 0, .int .i64 0, .string nm, .slice A n c, .slice none 0 0]] w fun e w' => e = .returned (.bool true) ∧ Chg (fun _ => False) w w' := by
  have H2 := Lib.hid h2
  have HN := Lib.hid hn
  clear h2 hn
  have d1 : (decide (1 ≤ id) && decide (id ≤ 200)) = true := by simp; omega
  have d3 : (decide (0 ≤ tm) && decide (tm ≤ 1099511627776)) = true := by simp; omega
  have bE := BoxAt.new w 32 #[.int .i64 id, .int .i64 ver, .int .i64 tm, .int .i64 7, .int .i64 0, .int .i64 0, .string nm, .slice A n c, .slice none 0 0]
  have hc0 : Chg (fun _ => False) w (w.alloc (.cells #[.int .i64 id, .int .i64 ver, .int .i64 tm, .int .i64 7, .int .i64 0, .int .i64 0, .string nm, .slice A n c, .slice none 0 0] 32)) := (Chg.refl _ _).alloc _
  go_enter Tryz.func28, Tryz.ntmps28
  go_wp2_with (first
    | (go_at_call 58; go_must (refine (texts_a _ _ _ _ _ _ _ _ _ nm A n c _ HN.out hd).mono ?_; rintro e w5 ⟨rfl, hc5⟩; have bE5 := bE4.keep hc5 (fun h => h); have bP5 := bP4.keep hc5 (fun h => h); have s3 := bP5.cell 3 rfl; have s8 := bE5.cell 8 rfl))
    | (go_at_call 57; go_must (refine (numbers_a _ _ _ _ _ _ _ _ A n c _).mono ?_; rintro e w4 ⟨rfl, hc4⟩; have bE4 := bE3.keep hc4 (fun h => h); have bP4 := bP3.keep hc4 (fun h => h); have r0 := bE4.cell 0 rfl; have r1 := bE4.cell 1 rfl; have r2 := bE4.cell 2 rfl; have r3 := bE4.cell 3 rfl; have r4 := bE4.cell 4 rfl; have r5 := bE4.cell 5 rfl; have r6 := bE4.cell 6 rfl; have r7 := bE4.cell 7 rfl; have r8 := bE4.cell 8 rfl; have t0 := bP4.cell 0 rfl; have t1 := bP4.cell 1 rfl; have t2 := bP4.cell 2 rfl; have t3 := bP4.cell 3 rfl; have t4 := bP4.cell 4 rfl))
    | (go_at_call 56; go_must (refine (right_any _ _).mono ?_; rintro e w' ⟨rfl, rfl⟩; rw [H2.out]))
    | (go_at_call 55; ((with_reducible refine (within_any tm _ _ _).mono ?_); rintro e w' ⟨rfl, rfl⟩; rw [d3]))
    | (go_at_call 55; go_must (refine (within_any id _ _ _).mono ?_; rintro e w' ⟨rfl, rfl⟩; rw [d1]))
    | (go_at_call 54; go_must (refine (named_7 _).mono ?_; rintro e w2 ⟨rfl, hc2⟩; have bE2 := bE.keep hc2 (fun h => h); have bP3 := BoxAt.new w2 93 #[.bool false, .bool true, .bool true, .bool false, .int .i64 0]; have bE3 := bE2.keep (S := fun _ => False) ((Chg.refl _ _).alloc (.cells #[.bool false, .bool true, .bool true, .bool false, .int .i64 0] 93)) (fun h => h); have q0 := bE3.cell 0 rfl; have q1 := bE3.cell 1 rfl; have q2 := bE3.cell 2 rfl; have q3 := bE3.cell 3 rfl; have q4 := bE3.cell 4 rfl; have q5 := bE3.cell 5 rfl; have q6 := bE3.cell 6 rfl; have q7 := bE3.cell 7 rfl; have q8 := bE3.cell 8 rfl; have p0 := bP3.cell 0 rfl; have p1 := bP3.cell 1 rfl; have p2 := bP3.cell 2 rfl; have p3 := bP3.cell 3 rfl; have p4 := bP3.cell 4 rfl)))
  go_ret
  exact ⟨rfl, (((hc0.trans hc2 (fun x hx => hx.elim)).alloc _).trans hc4 (fun x hx => hx.elim)).trans hc5 (fun x hx => hx.elim)⟩
set_option maxHeartbeats 2000000 in
set_option maxRecDepth 20000 in
theorem right_3 (id ver tm node m : Int) (A : Option Addr) (n c : Nat) (w : World) (h1 : 1 ≤ id ∧ id ≤ 200) (h2 : rightB ver = true) (h3 : 0 ≤ tm ∧ tm ≤ 1099511627776) (h4 : 0 ≤ node ∧ node ≤ 7) (hd : n ≤ 40) :
    Calls Tryz.prog 28 #[.agg #[.int .i64 id, .int .i64 ver, .int .i64 tm, .int .i64 3, .int .i64 node, .int .i64 m, .string { data := #[] }, .slice A n c, .slice none 0 0]] w fun e w' => e = .returned (.bool (decide (1 ≤ m) && decide (m ≤ 5))) ∧ Chg (fun _ => False) w w' := by
  have H2 := Lib.hid h2
  clear h2
  have d1 : (decide (1 ≤ id) && decide (id ≤ 200)) = true := by simp; omega
  have d3 : (decide (0 ≤ tm) && decide (tm ≤ 1099511627776)) = true := by simp; omega
  have bE := BoxAt.new w 32 #[.int .i64 id, .int .i64 ver, .int .i64 tm, .int .i64 3, .int .i64 node, .int .i64 m, .string { data := #[] }, .slice A n c, .slice none 0 0]
  have hc0 : Chg (fun _ => False) w (w.alloc (.cells #[.int .i64 id, .int .i64 ver, .int .i64 tm, .int .i64 3, .int .i64 node, .int .i64 m, .string { data := #[] }, .slice A n c, .slice none 0 0] 32)) := (Chg.refl _ _).alloc _
  obtain ⟨bb, hbb⟩ : ∃ bb, (decide (1 ≤ m) && decide (m ≤ 5)) = bb := ⟨_, rfl⟩
  rw [hbb]
  cases bb
  all_goals
    go_enter Tryz.func28, Tryz.ntmps28
    go_wp2_with (first
      | (go_at_call 58; go_must (refine (texts_b _ _ _ _ _ _ _ _ _ A n c _ hd).mono ?_; rintro e w5 ⟨rfl, hc5⟩; have bE5 := bE4.keep hc5 (fun h => h); have bP5 := bP4.keep hc5 (fun h => h); have s3 := bP5.cell 3 rfl; have s8 := bE5.cell 8 rfl))
      | (go_at_call 57; go_must (refine (numbers_b _ _ _ _ _ _ _ node m _ A n c _ h4.1 h4.2).mono ?_; rintro e w4 ⟨rfl, hc4⟩; rw [hbb]; have bE4 := bE3.keep hc4 (fun h => h); have bP4 := bP3.keep hc4 (fun h => h); have r0 := bE4.cell 0 rfl; have r1 := bE4.cell 1 rfl; have r2 := bE4.cell 2 rfl; have r3 := bE4.cell 3 rfl; have r4 := bE4.cell 4 rfl; have r5 := bE4.cell 5 rfl; have r6 := bE4.cell 6 rfl; have r7 := bE4.cell 7 rfl; have r8 := bE4.cell 8 rfl; have t0 := bP4.cell 0 rfl; have t1 := bP4.cell 1 rfl; have t2 := bP4.cell 2 rfl; have t3 := bP4.cell 3 rfl; have t4 := bP4.cell 4 rfl))
      | (go_at_call 56; go_must (refine (right_any _ _).mono ?_; rintro e w' ⟨rfl, rfl⟩; rw [H2.out]))
      | (go_at_call 55; ((with_reducible refine (within_any tm _ _ _).mono ?_); rintro e w' ⟨rfl, rfl⟩; rw [d3]))
      | (go_at_call 55; go_must (refine (within_any id _ _ _).mono ?_; rintro e w' ⟨rfl, rfl⟩; rw [d1]))
      | (go_at_call 54; go_must (refine (named_3 _).mono ?_; rintro e w2 ⟨rfl, hc2⟩; have bE2 := bE.keep hc2 (fun h => h); have bP3 := BoxAt.new w2 93 #[.bool true, .bool false, .bool true, .bool false, .int .i64 5]; have bE3 := bE2.keep (S := fun _ => False) ((Chg.refl _ _).alloc (.cells #[.bool true, .bool false, .bool true, .bool false, .int .i64 5] 93)) (fun h => h); have q0 := bE3.cell 0 rfl; have q1 := bE3.cell 1 rfl; have q2 := bE3.cell 2 rfl; have q3 := bE3.cell 3 rfl; have q4 := bE3.cell 4 rfl; have q5 := bE3.cell 5 rfl; have q6 := bE3.cell 6 rfl; have q7 := bE3.cell 7 rfl; have q8 := bE3.cell 8 rfl; have p0 := bP3.cell 0 rfl; have p1 := bP3.cell 1 rfl; have p2 := bP3.cell 2 rfl; have p3 := bP3.cell 3 rfl; have p4 := bP3.cell 4 rfl)))
    go_ret
    exact ⟨rfl, by first | exact (((hc0.trans hc2 (fun x hx => hx.elim)).alloc _).trans hc4 (fun x hx => hx.elim)).trans hc5 (fun x hx => hx.elim) | exact ((hc0.trans hc2 (fun x hx => hx.elim)).alloc _).trans hc4 (fun x hx => hx.elim)⟩
set_option maxHeartbeats 1000000 in
set_option maxRecDepth 20000 in
theorem right_0 (id ver tm node m : Int) (nm : ByteArray) (A : Option Addr) (n c : Nat) (w : World) :
    Calls Tryz.prog 28 #[.agg #[.int .i64 id, .int .i64 ver, .int .i64 tm, .int .i64 0, .int .i64 node, .int .i64 m, .string nm, .slice A n c, .slice none 0 0]] w fun e w' => e = .returned (.bool false) ∧ Chg (fun _ => False) w w' := by
  go_enter Tryz.func28, Tryz.ntmps28
  go_wp2_with (go_at_call 54; go_must (refine (named_0 _).mono ?_; rintro e w2 ⟨rfl, hc2⟩))
  go_ret
  exact ⟨rfl, (((Chg.refl _ _).alloc _).trans hc2 (fun x hx => hx.elim)).alloc _⟩
end Go.Proofs.YtngfimjbgopgjaaGreatDoor
