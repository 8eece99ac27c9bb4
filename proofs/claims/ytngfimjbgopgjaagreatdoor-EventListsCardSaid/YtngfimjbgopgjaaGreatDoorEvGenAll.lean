/- EvGen, EvGen2, in one text (merge.py). -/
import Derived.Test.YtngfimjbgopgjaaGreatDoorDef
/- Contracts of event.named, numbers, texts, Right at any event (gen_evgen.py). -/
namespace Go.Proofs.YtngfimjbgopgjaaGreatDoor
open Go.RowKit
set_option linter.unusedVariables false

/-- What a type names. -/
def nodeB (k : Int) : Bool := decide (2 ≤ k) && decide (k ≤ 4)
def nameB (k : Int) : Bool := decide (5 ≤ k) && decide (k ≤ 7)
def dataB (k : Int) : Bool := decide (k = 3) || decide (k = 7)
def defsB (k : Int) : Bool := decide (k = 1)
def mostN (k : Int) : Int := if nodeB k then 5 else if k = 5 then 1048576 else 0
def okB (k : Int) : Bool := decide (1 ≤ k) && decide (k ≤ 12)

set_option maxHeartbeats 2000000 in
set_option maxRecDepth 20000 in
theorem named_any (k : Int) (w : World) : Calls Tryz.prog 54 #[.int .i64 k] w fun e w' => e = .returned (.tuple #[.agg #[.bool (nodeB k), .bool (nameB k), .bool (dataB k), .bool (defsB k), .int .i64 (mostN k)], .bool (okB k)]) ∧ Chg (fun _ => False) w w' := by
  rcases (by omega : k = 1 ∨ k = 2 ∨ k = 3 ∨ k = 4 ∨ k = 5 ∨ k = 6 ∨ k = 7 ∨ k = 8 ∨ k = 9 ∨ k = 10 ∨ k = 11 ∨ k = 12 ∨ (k ≠ 1 ∧ k ≠ 2 ∧ k ≠ 3 ∧ k ≠ 4 ∧ k ≠ 5 ∧ k ≠ 6 ∧ k ≠ 7 ∧ k ≠ 8 ∧ k ≠ 9 ∧ k ≠ 10 ∧ k ≠ 11 ∧ k ≠ 12)) with rfl | rfl | rfl | rfl | rfl | rfl | rfl | rfl | rfl | rfl | rfl | rfl | hk
  · go_enter Tryz.func54, Tryz.ntmps54
    go_wp2_with fail
    refine bodyPost_ret (results_cell_row_tmp rfl _ _ w.heap.size _ _ _ _ rfl (BoxAt.new w 93 #[.bool false, .bool false, .bool false, .bool true, .int .i64 0]) Tryz.underlying93 rfl partsSize) rfl ?_
    exact ⟨rfl, (Chg.refl _ _).alloc _⟩
  · go_enter Tryz.func54, Tryz.ntmps54
    go_wp2_with fail
    refine bodyPost_ret (results_cell_row_tmp rfl _ _ w.heap.size _ _ _ _ rfl (BoxAt.new w 93 #[.bool true, .bool false, .bool false, .bool false, .int .i64 5]) Tryz.underlying93 rfl partsSize) rfl ?_
    exact ⟨rfl, (Chg.refl _ _).alloc _⟩
  · go_enter Tryz.func54, Tryz.ntmps54
    go_wp2_with fail
    refine bodyPost_ret (results_cell_row_tmp rfl _ _ w.heap.size _ _ _ _ rfl (BoxAt.new w 93 #[.bool true, .bool false, .bool true, .bool false, .int .i64 5]) Tryz.underlying93 rfl partsSize) rfl ?_
    exact ⟨rfl, (Chg.refl _ _).alloc _⟩
  · go_enter Tryz.func54, Tryz.ntmps54
    go_wp2_with fail
    refine bodyPost_ret (results_cell_row_tmp rfl _ _ w.heap.size _ _ _ _ rfl (BoxAt.new w 93 #[.bool true, .bool false, .bool false, .bool false, .int .i64 5]) Tryz.underlying93 rfl partsSize) rfl ?_
    exact ⟨rfl, (Chg.refl _ _).alloc _⟩
  · go_enter Tryz.func54, Tryz.ntmps54
    go_wp2_with fail
    refine bodyPost_ret (results_cell_row_tmp rfl _ _ w.heap.size _ _ _ _ rfl (BoxAt.new w 93 #[.bool false, .bool true, .bool false, .bool false, .int .i64 1048576]) Tryz.underlying93 rfl partsSize) rfl ?_
    exact ⟨rfl, (Chg.refl _ _).alloc _⟩
  · go_enter Tryz.func54, Tryz.ntmps54
    go_wp2_with fail
    refine bodyPost_ret (results_cell_row_tmp rfl _ _ w.heap.size _ _ _ _ rfl (BoxAt.new w 93 #[.bool false, .bool true, .bool false, .bool false, .int .i64 0]) Tryz.underlying93 rfl partsSize) rfl ?_
    exact ⟨rfl, (Chg.refl _ _).alloc _⟩
  · go_enter Tryz.func54, Tryz.ntmps54
    go_wp2_with fail
    refine bodyPost_ret (results_cell_row_tmp rfl _ _ w.heap.size _ _ _ _ rfl (BoxAt.new w 93 #[.bool false, .bool true, .bool true, .bool false, .int .i64 0]) Tryz.underlying93 rfl partsSize) rfl ?_
    exact ⟨rfl, (Chg.refl _ _).alloc _⟩
  · go_enter Tryz.func54, Tryz.ntmps54
    go_wp2_with fail
    refine bodyPost_ret (results_cell_row_tmp rfl _ _ w.heap.size _ _ _ _ rfl (BoxAt.new w 93 #[.bool false, .bool false, .bool false, .bool false, .int .i64 0]) Tryz.underlying93 rfl partsSize) rfl ?_
    exact ⟨rfl, (Chg.refl _ _).alloc _⟩
  · go_enter Tryz.func54, Tryz.ntmps54
    go_wp2_with fail
    refine bodyPost_ret (results_cell_row_tmp rfl _ _ w.heap.size _ _ _ _ rfl (BoxAt.new w 93 #[.bool false, .bool false, .bool false, .bool false, .int .i64 0]) Tryz.underlying93 rfl partsSize) rfl ?_
    exact ⟨rfl, (Chg.refl _ _).alloc _⟩
  · go_enter Tryz.func54, Tryz.ntmps54
    go_wp2_with fail
    refine bodyPost_ret (results_cell_row_tmp rfl _ _ w.heap.size _ _ _ _ rfl (BoxAt.new w 93 #[.bool false, .bool false, .bool false, .bool false, .int .i64 0]) Tryz.underlying93 rfl partsSize) rfl ?_
    exact ⟨rfl, (Chg.refl _ _).alloc _⟩
  · go_enter Tryz.func54, Tryz.ntmps54
    go_wp2_with fail
    refine bodyPost_ret (results_cell_row_tmp rfl _ _ w.heap.size _ _ _ _ rfl (BoxAt.new w 93 #[.bool false, .bool false, .bool false, .bool false, .int .i64 0]) Tryz.underlying93 rfl partsSize) rfl ?_
    exact ⟨rfl, (Chg.refl _ _).alloc _⟩
  · go_enter Tryz.func54, Tryz.ntmps54
    go_wp2_with fail
    refine bodyPost_ret (results_cell_row_tmp rfl _ _ w.heap.size _ _ _ _ rfl (BoxAt.new w 93 #[.bool false, .bool false, .bool false, .bool false, .int .i64 0]) Tryz.underlying93 rfl partsSize) rfl ?_
    exact ⟨rfl, (Chg.refl _ _).alloc _⟩
  · obtain ⟨n1, n2, n3, n4, n5, n6, n7, n8, n9, n10, n11, n12⟩ := hk
    have m1 : (k == 1) = false := by simpa using n1
    have d1 : decide (k = 1) = false := by simpa using n1
    have m2 : (k == 2) = false := by simpa using n2
    have d2 : decide (k = 2) = false := by simpa using n2
    have m3 : (k == 3) = false := by simpa using n3
    have d3 : decide (k = 3) = false := by simpa using n3
    have m4 : (k == 4) = false := by simpa using n4
    have d4 : decide (k = 4) = false := by simpa using n4
    have m5 : (k == 5) = false := by simpa using n5
    have d5 : decide (k = 5) = false := by simpa using n5
    have m6 : (k == 6) = false := by simpa using n6
    have d6 : decide (k = 6) = false := by simpa using n6
    have m7 : (k == 7) = false := by simpa using n7
    have d7 : decide (k = 7) = false := by simpa using n7
    have m8 : (k == 8) = false := by simpa using n8
    have d8 : decide (k = 8) = false := by simpa using n8
    have m9 : (k == 9) = false := by simpa using n9
    have d9 : decide (k = 9) = false := by simpa using n9
    have m10 : (k == 10) = false := by simpa using n10
    have d10 : decide (k = 10) = false := by simpa using n10
    have m11 : (k == 11) = false := by simpa using n11
    have d11 : decide (k = 11) = false := by simpa using n11
    have m12 : (k == 12) = false := by simpa using n12
    have d12 : decide (k = 12) = false := by simpa using n12
    have e0 : nodeB k = false := by simp only [nodeB, Bool.and_eq_false_iff, decide_eq_false_iff_not]; omega
    have e1 : nameB k = false := by simp only [nameB, Bool.and_eq_false_iff, decide_eq_false_iff_not]; omega
    have e2 : dataB k = false := by simp only [dataB, Bool.or_eq_false_iff, decide_eq_false_iff_not]; omega
    have e3 : defsB k = false := by simp only [defsB, decide_eq_false_iff_not]; omega
    have e4 : mostN k = 0 := by simp only [mostN, e0]; rw [if_neg n5]; rfl
    have e5 : okB k = false := by simp only [okB, Bool.and_eq_false_iff, decide_eq_false_iff_not]; omega
    rw [e0, e1, e2, e3, e4, e5]
    go_enter Tryz.func54, Tryz.ntmps54
    go_wp2_with fail
    refine bodyPost_ret (results_cell_row_tmp rfl _ _ w.heap.size _ _ _ _ rfl (BoxAt.new w 93 #[.bool false, .bool false, .bool false, .bool false, .int .i64 0]) Tryz.underlying93 rfl partsSize) rfl ?_
    exact ⟨rfl, (Chg.refl _ _).alloc _⟩

/-- Node and number as a type names them. -/
def numB (b : Bool) (p node m : Int) : Bool := (b || decide (node = 0)) && (!decide (p = 0) || decide (m = 0)) && ((decide (0 ≤ node) && decide (node ≤ 7)) && (decide (p = 0) || (decide (1 ≤ m) && decide (m ≤ p))))
set_option maxHeartbeats 2000000 in
set_option maxRecDepth 20000 in
theorem numbers_any (b0 b1 b2 b3 : Bool) (p id ver tm ty node m : Int) (nm : ByteArray) (A : Option Addr) (n c : Nat) (D : Option Addr) (dn dc : Nat) (w : World) : Calls Tryz.prog 57 #[.agg #[.bool b0, .bool b1, .bool b2, .bool b3, .int .i64 p], .agg #[.int .i64 id, .int .i64 ver, .int .i64 tm, .int .i64 ty, .int .i64 node, .int .i64 m, .string nm, .slice A n c, .slice D dn dc]] w fun e w' => e = .returned (.bool (numB b0 p node m)) ∧ Chg (fun _ => False) w w' := by
  have hb : numB b0 p node m = ((b0 || decide (node = 0)) && (!decide (p = 0) || decide (m = 0)) && ((decide (0 ≤ node) && decide (node ≤ 7)) && (decide (p = 0) || (decide (1 ≤ m) && decide (m ≤ p))))) := rfl
  rw [hb]
  clear hb
  obtain ⟨t1, ht1⟩ : ∃ t1, t1 = (decide (0 ≤ node) && decide (node ≤ 7)) := ⟨_, rfl⟩
  obtain ⟨t2, ht2⟩ : ∃ t2, t2 = (decide (1 ≤ m) && decide (m ≤ p)) := ⟨_, rfl⟩
  rw [← ht1, ← ht2]
  have H1 := Lib.hid ht1
  have H2 := Lib.hid ht2
  clear ht1 ht2
  have hc0 : Chg (fun _ => False) w ((w.alloc (.cells #[.bool b0, .bool b1, .bool b2, .bool b3, .int .i64 p] 93)).alloc (.cells #[.int .i64 id, .int .i64 ver, .int .i64 tm, .int .i64 ty, .int .i64 node, .int .i64 m, .string nm, .slice A n c, .slice D dn dc] 32)) := ((Chg.refl _ _).alloc _).alloc _
  rcases Classical.em (node = 0) with rfl | hn <;> rcases Classical.em (p = 0) with rfl | hp <;> rcases Classical.em (m = 0) with rfl | hm <;> cases b0 <;> cases t1 <;> first | (exfalso; have := H1.out; simp at this; done) | skip
  all_goals
    (try have u1 : decide (node = 0) = false := by simpa using hn)
    (try have u2 : (node != 0) = true := by simpa using hn)
    (try have v1 : (p == 0) = false := by simpa using hp)
    (try have v2 : decide (p = 0) = false := by simpa using hp)
    (try have x1 : (m != 0) = true := by simpa using hm)
    (try have x2 : decide (m = 0) = false := by simpa using hm)
    go_enter Tryz.func57, Tryz.ntmps57
    go_wp2_with (first
      | (go_at_call 55; (with_reducible refine (within_any _ 1 _ _).mono ?_); rintro e w' ⟨rfl, rfl⟩; first | rw [← H2.out] | skip)
      | (go_at_call 55; go_must (refine (within_any _ _ _ _).mono ?_; rintro e w' ⟨rfl, rfl⟩; first | rw [← H1.out] | skip)))
    go_ret
    exact ⟨by simp_all, hc0⟩
end Go.Proofs.YtngfimjbgopgjaaGreatDoor

/- Contracts of event.texts and Right at any event. -/
namespace Go.Proofs.YtngfimjbgopgjaaGreatDoor
open Go.RowKit
set_option linter.unusedVariables false

/-- Name and data as a type names them. -/
def txtB (b1 : Bool) (nm : ByteArray) (b2 : Bool) (n : Nat) : Bool := (b1 == !decide (nm.size = 0)) && (!b1 || isNameB nm) && (decide (n = 0) || (b2 && decide (n ≤ 40)))
theorem str_nil {s : ByteArray} (h : s.size = 0) : s = { data := #[] } := by
  have h1 : s.data.size = 0 := h
  have h2 := Array.eq_empty_of_size_eq_zero h1
  cases s
  simp_all

set_option maxHeartbeats 2000000 in
set_option maxRecDepth 20000 in
theorem texts_any (b0 b1 b2 b3 : Bool) (p id ver tm ty node m : Int) (nm : ByteArray) (A : Option Addr) (n c : Nat) (D : Option Addr) (dn dc : Nat) (w : World) (hs : nm.size ≤ 140737488355328) : Calls Tryz.prog 58 #[.agg #[.bool b0, .bool b1, .bool b2, .bool b3, .int .i64 p], .agg #[.int .i64 id, .int .i64 ver, .int .i64 tm, .int .i64 ty, .int .i64 node, .int .i64 m, .string nm, .slice A n c, .slice D dn dc]] w fun e w' => e = .returned (.bool (txtB b1 nm b2 n)) ∧ Chg (fun _ => False) w w' := by
  have hb : txtB b1 nm b2 n = ((b1 == !decide (nm.size = 0)) && (!b1 || isNameB nm) && (decide (n = 0) || (b2 && decide (n ≤ 40)))) := rfl
  rw [hb]
  clear hb
  obtain ⟨t1, ht1⟩ : ∃ t1, isNameB nm = t1 := ⟨_, rfl⟩
  rw [ht1]
  have H1 := Lib.hid ht1
  clear ht1
  have bP := two_P w 93 32 #[.bool b0, .bool b1, .bool b2, .bool b3, .int .i64 p] #[.int .i64 id, .int .i64 ver, .int .i64 tm, .int .i64 ty, .int .i64 node, .int .i64 m, .string nm, .slice A n c, .slice D dn dc]
  have bE := two_E w 93 32 #[.bool b0, .bool b1, .bool b2, .bool b3, .int .i64 p] #[.int .i64 id, .int .i64 ver, .int .i64 tm, .int .i64 ty, .int .i64 node, .int .i64 m, .string nm, .slice A n c, .slice D dn dc]
  have hc0 : Chg (fun _ => False) w ((w.alloc (.cells #[.bool b0, .bool b1, .bool b2, .bool b3, .int .i64 p] 93)).alloc (.cells #[.int .i64 id, .int .i64 ver, .int .i64 tm, .int .i64 ty, .int .i64 node, .int .i64 m, .string nm, .slice A n c, .slice D dn dc] 32)) := ((Chg.refl _ _).alloc _).alloc _
  rcases Classical.em (nm.size = 0) with h0 | h0
  · obtain rfl := str_nil h0
    have hd0 : decide (ByteArray.size { data := #[] } = 0) = true := by decide
    rw [hd0]
    cases b1
    · rcases n with _ | n
      · go_enter Tryz.func58, Tryz.ntmps58
        go_wp2_with fail
        go_ret
        exact ⟨rfl, hc0⟩
      · have hnz : ((n : Int) + 1 == 0) = false := by simp; omega
        have hnz2 : ((n : Int) + 1 = 0) = False := by simp; omega
        rcases Classical.em (n + 1 ≤ 40) with h4 | h4 <;> cases b2
        all_goals
          (try have h5 : (n : Int) + 1 ≤ 40 := by omega)
          (try have h5 : (40 : Int) < (n : Int) + 1 := by omega)
          go_enter Tryz.func58, Tryz.ntmps58
          go_wp2_with fail
          go_ret
          exact ⟨by simp <;> omega, hc0⟩
    · go_enter Tryz.func58, Tryz.ntmps58
      go_wp2_with fail
      go_ret
      exact ⟨rfl, hc0⟩
  · have hd0 : decide (nm.size = 0) = false := by simpa using h0
    rw [hd0]
    have m0 := str_ne h0
    cases b1
    · go_enter Tryz.func58, Tryz.ntmps58
      go_wp2_with fail
      go_ret
      exact ⟨rfl, hc0⟩
    · cases t1
      · go_enter Tryz.func58, Tryz.ntmps58
        go_wp2_with (go_at_call 31; go_must (refine (isName_any nm _ hs).mono ?_; rintro e w2 ⟨rfl, hc⟩; rw [H1.out]))
        go_ret
        exact ⟨rfl, hc0.trans hc (fun x hx => hx.elim)⟩
      · rcases n with _ | n
        · go_enter Tryz.func58, Tryz.ntmps58
          go_wp2_with (go_at_call 31; go_must (refine (isName_any nm _ hs).mono ?_; rintro e w2 ⟨rfl, hc⟩; rw [H1.out]; have q7 := (bE.keep hc (fun h => h)).cell 7 rfl))
          go_ret
          exact ⟨rfl, hc0.trans hc (fun x hx => hx.elim)⟩
        · have hnz : ((n : Int) + 1 == 0) = false := by simp; omega
          have hnz2 : ((n : Int) + 1 = 0) = False := by simp; omega
          rcases Classical.em (n + 1 ≤ 40) with h4 | h4 <;> cases b2
          all_goals
            (try have h5 : (n : Int) + 1 ≤ 40 := by omega)
            (try have h5 : (40 : Int) < (n : Int) + 1 := by omega)
            go_enter Tryz.func58, Tryz.ntmps58
            go_wp2_with (go_at_call 31; go_must (refine (isName_any nm _ hs).mono ?_; rintro e w2 ⟨rfl, hc⟩; rw [H1.out]; have q7 := (bE.keep hc (fun h => h)).cell 7 rfl; have p2 := (bP.keep hc (fun h => h)).cell 2 rfl))
            go_ret
            exact ⟨by simp <;> omega, hc0.trans hc (fun x hx => hx.elim)⟩
end Go.Proofs.YtngfimjbgopgjaaGreatDoor
