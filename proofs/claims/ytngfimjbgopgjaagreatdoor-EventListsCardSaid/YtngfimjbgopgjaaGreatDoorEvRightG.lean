/- Contract of event.Right at any event (gen_evr.py). -/
import Derived.Test.YtngfimjbgopgjaaGreatDoorEvGenAll
namespace Go.Proofs.YtngfimjbgopgjaaGreatDoor
open Go.RowKit
set_option linter.unusedVariables false

/-- Which events may be. -/
def rightEB (id ver tm ty node m : Int) (nm : ByteArray) (n : Nat) (dl : List (List Int × Int × Int)) : Bool :=
  okB ty && ((decide (1 ≤ id) && decide (id ≤ 200)) && (rightB ver && ((decide (0 ≤ tm) && decide (tm ≤ 1099511627776)) && (numB (nodeB ty) (mostN ty) node m && (txtB (nameB ty) nm (dataB ty) n && (if defsB ty = true then rightDefsB dl else decide (dl.length = 0)))))))

set_option maxHeartbeats 4000000 in
set_option maxRecDepth 20000 in
theorem rightE_any (id ver tm ty node m : Int) (nm : ByteArray) (A : Option Addr) (n c : Nat) (D : Option Addr) (dn dc : Nat) (dl : List Df) (w : World) (hs : nm.size ≤ 140737488355328) (hD : RdDf w D dl) (hdn : dl.length = dn) (hdn2 : dn ≤ 17592186044416) (hns : ∀ d ∈ dl, d.ns.length ≤ 17592186044416) :
    Calls Tryz.prog 28 #[.agg #[.int .i64 id, .int .i64 ver, .int .i64 tm, .int .i64 ty, .int .i64 node, .int .i64 m, .string nm, .slice A n c, .slice D dn dc]] w fun e w' => e = .returned (.bool (rightEB id ver tm ty node m nm n (dl.map Df.v))) ∧ Chg (fun _ => False) w w' := by
  have hb : rightEB id ver tm ty node m nm n (dl.map Df.v) = (okB ty && ((decide (1 ≤ id) && decide (id ≤ 200)) && (rightB ver && ((decide (0 ≤ tm) && decide (tm ≤ 1099511627776)) && (numB (nodeB ty) (mostN ty) node m && (txtB (nameB ty) nm (dataB ty) n && (if defsB ty = true then rightDefsB (dl.map Df.v) else decide (dn = 0)))))))) := by
    rw [rightEB, List.length_map, hdn]
  rw [hb]
  clear hb
  have hnamed := fun w => named_any ty w
  obtain ⟨b0, h0⟩ : ∃ b, nodeB ty = b := ⟨_, rfl⟩
  obtain ⟨b1, h1⟩ : ∃ b, nameB ty = b := ⟨_, rfl⟩
  obtain ⟨b2, h2⟩ : ∃ b, dataB ty = b := ⟨_, rfl⟩
  obtain ⟨b3, h3⟩ : ∃ b, defsB ty = b := ⟨_, rfl⟩
  obtain ⟨p, h4⟩ : ∃ b, mostN ty = b := ⟨_, rfl⟩
  obtain ⟨b5, h5⟩ : ∃ b, okB ty = b := ⟨_, rfl⟩
  simp only [h0, h1, h2, h3, h4, h5] at hnamed ⊢
  clear h0 h1 h2 h3 h4 h5
  obtain ⟨t1, e1⟩ : ∃ t, (decide (1 ≤ id) && decide (id ≤ 200)) = t := ⟨_, rfl⟩
  obtain ⟨t2, e2⟩ : ∃ t, rightB ver = t := ⟨_, rfl⟩
  obtain ⟨t3, e3⟩ : ∃ t, (decide (0 ≤ tm) && decide (tm ≤ 1099511627776)) = t := ⟨_, rfl⟩
  obtain ⟨t4, e4⟩ : ∃ t, numB b0 p node m = t := ⟨_, rfl⟩
  obtain ⟨t5, e5⟩ : ∃ t, txtB b1 nm b2 n = t := ⟨_, rfl⟩
  obtain ⟨t6, e6⟩ : ∃ t, rightDefsB (dl.map Df.v) = t := ⟨_, rfl⟩
  rw [e1, e2, e3, e4, e5, e6]
  obtain ⟨res, hres⟩ : ∃ res, (b5 && (t1 && (t2 && (t3 && (t4 && (t5 && (if b3 = true then t6 else decide (dn = 0)))))))) = res := ⟨_, rfl⟩
  rw [hres]
  have HRES := Lib.hid hres
  clear hres
  have E1 := Lib.hid e1
  have E2 := Lib.hid e2
  have E3 := Lib.hid e3
  have E4 := Lib.hid e4
  have E5 := Lib.hid e5
  have E6 := Lib.hid e6
  have HD := Lib.hid hD
  have HDN := Lib.hid hdn
  have HNS := Lib.hid hns
  clear e1 e2 e3 e4 e5 e6 hD hdn hns
  have bE := BoxAt.new w 32 #[.int .i64 id, .int .i64 ver, .int .i64 tm, .int .i64 ty, .int .i64 node, .int .i64 m, .string nm, .slice A n c, .slice D dn dc]
  have hc0 : Chg (fun _ => False) w (w.alloc (.cells #[.int .i64 id, .int .i64 ver, .int .i64 tm, .int .i64 ty, .int .i64 node, .int .i64 m, .string nm, .slice A n c, .slice D dn dc] 32)) := (Chg.refl _ _).alloc _
  have f : ∀ (x : Nat), False → (False ∨ w.heap.size ≤ x) := fun x hx => hx.elim
  cases b5
  · go_enter Tryz.func28, Tryz.ntmps28
    go_wp2_with (first
      | (go_at_call 59; go_must (refine (rightDefs_any D dn dc dl _ ((HD.out.still hc0).still (((hc2'.trans hc4 (fun x hx => hx.elim)).trans hc5 (fun x hx => hx.elim)))) HDN.out hdn2 HNS.out).mono ?_; rintro e w6 ⟨rfl, hc6⟩; rw [E6.out]))
      | (go_at_call 58; go_must (refine (texts_any _ _ _ _ _ _ _ _ _ _ _ nm A n c D dn dc _ hs).mono ?_; rintro e w5 ⟨rfl, hc5⟩; rw [E5.out]; have bE5 := bE4.keep hc5 (fun h => h); have bP5 := bP4.keep hc5 (fun h => h); have s3 := bP5.cell 3 rfl; have s8 := bE5.cell 8 rfl))
      | (go_at_call 57; go_must (refine (numbers_any _ _ _ _ _ _ _ _ _ _ _ _ A n c D dn dc _).mono ?_; rintro e w4 ⟨rfl, hc4⟩; rw [E4.out]; have bE4 := bE3.keep hc4 (fun h => h); have bP4 := bP3.keep hc4 (fun h => h); have r0 := bE4.cell 0 rfl; have r1 := bE4.cell 1 rfl; have r2 := bE4.cell 2 rfl; have r3 := bE4.cell 3 rfl; have r4 := bE4.cell 4 rfl; have r5 := bE4.cell 5 rfl; have r6 := bE4.cell 6 rfl; have r7 := bE4.cell 7 rfl; have r8 := bE4.cell 8 rfl; have t0 := bP4.cell 0 rfl; have t1 := bP4.cell 1 rfl; have t2 := bP4.cell 2 rfl; have t3 := bP4.cell 3 rfl; have t4 := bP4.cell 4 rfl))
      | (go_at_call 56; go_must (refine (right_any _ _).mono ?_; rintro e w' ⟨rfl, rfl⟩; rw [E2.out]))
      | (go_at_call 55; (with_reducible refine (within_any tm 0 1099511627776 _).mono ?_); rintro e w' ⟨rfl, rfl⟩; rw [E3.out])
      | (go_at_call 55; go_must (refine (within_any id 1 200 _).mono ?_; rintro e w' ⟨rfl, rfl⟩; rw [E1.out]))
      | (go_at_call 54; go_must (refine (hnamed _).mono ?_; rintro e w2 ⟨rfl, hc2⟩; have hc2' : Chg (fun _ => False) (w.alloc (.cells #[.int .i64 id, .int .i64 ver, .int .i64 tm, .int .i64 ty, .int .i64 node, .int .i64 m, .string nm, .slice A n c, .slice D dn dc] 32)) (w2.alloc (.cells #[.bool b0, .bool b1, .bool b2, .bool b3, .int .i64 p] 93)) := hc2.alloc _; have bE2 := bE.keep hc2 (fun h => h); have bP3 := BoxAt.new w2 93 #[.bool b0, .bool b1, .bool b2, .bool b3, .int .i64 p]; have bE3 := bE2.keep (S := fun _ => False) ((Chg.refl _ _).alloc (.cells #[.bool b0, .bool b1, .bool b2, .bool b3, .int .i64 p] 93)) (fun h => h); have q0 := bE3.cell 0 rfl; have q1 := bE3.cell 1 rfl; have q2 := bE3.cell 2 rfl; have q3 := bE3.cell 3 rfl; have q4 := bE3.cell 4 rfl; have q5 := bE3.cell 5 rfl; have q6 := bE3.cell 6 rfl; have q7 := bE3.cell 7 rfl; have q8 := bE3.cell 8 rfl; have p0 := bP3.cell 0 rfl; have p1 := bP3.cell 1 rfl; have p2 := bP3.cell 2 rfl; have p3 := bP3.cell 3 rfl; have p4 := bP3.cell 4 rfl)))
    go_ret
    exact ⟨by rw [← HRES.out]; rfl, (hc0.trans hc2 f).alloc _⟩
  · cases t1
    · go_enter Tryz.func28, Tryz.ntmps28
      go_wp2_with (first
        | (go_at_call 59; go_must (refine (rightDefs_any D dn dc dl _ ((HD.out.still hc0).still (((hc2'.trans hc4 (fun x hx => hx.elim)).trans hc5 (fun x hx => hx.elim)))) HDN.out hdn2 HNS.out).mono ?_; rintro e w6 ⟨rfl, hc6⟩; rw [E6.out]))
        | (go_at_call 58; go_must (refine (texts_any _ _ _ _ _ _ _ _ _ _ _ nm A n c D dn dc _ hs).mono ?_; rintro e w5 ⟨rfl, hc5⟩; rw [E5.out]; have bE5 := bE4.keep hc5 (fun h => h); have bP5 := bP4.keep hc5 (fun h => h); have s3 := bP5.cell 3 rfl; have s8 := bE5.cell 8 rfl))
        | (go_at_call 57; go_must (refine (numbers_any _ _ _ _ _ _ _ _ _ _ _ _ A n c D dn dc _).mono ?_; rintro e w4 ⟨rfl, hc4⟩; rw [E4.out]; have bE4 := bE3.keep hc4 (fun h => h); have bP4 := bP3.keep hc4 (fun h => h); have r0 := bE4.cell 0 rfl; have r1 := bE4.cell 1 rfl; have r2 := bE4.cell 2 rfl; have r3 := bE4.cell 3 rfl; have r4 := bE4.cell 4 rfl; have r5 := bE4.cell 5 rfl; have r6 := bE4.cell 6 rfl; have r7 := bE4.cell 7 rfl; have r8 := bE4.cell 8 rfl; have t0 := bP4.cell 0 rfl; have t1 := bP4.cell 1 rfl; have t2 := bP4.cell 2 rfl; have t3 := bP4.cell 3 rfl; have t4 := bP4.cell 4 rfl))
        | (go_at_call 56; go_must (refine (right_any _ _).mono ?_; rintro e w' ⟨rfl, rfl⟩; rw [E2.out]))
        | (go_at_call 55; (with_reducible refine (within_any tm 0 1099511627776 _).mono ?_); rintro e w' ⟨rfl, rfl⟩; rw [E3.out])
        | (go_at_call 55; go_must (refine (within_any id 1 200 _).mono ?_; rintro e w' ⟨rfl, rfl⟩; rw [E1.out]))
        | (go_at_call 54; go_must (refine (hnamed _).mono ?_; rintro e w2 ⟨rfl, hc2⟩; have hc2' : Chg (fun _ => False) (w.alloc (.cells #[.int .i64 id, .int .i64 ver, .int .i64 tm, .int .i64 ty, .int .i64 node, .int .i64 m, .string nm, .slice A n c, .slice D dn dc] 32)) (w2.alloc (.cells #[.bool b0, .bool b1, .bool b2, .bool b3, .int .i64 p] 93)) := hc2.alloc _; have bE2 := bE.keep hc2 (fun h => h); have bP3 := BoxAt.new w2 93 #[.bool b0, .bool b1, .bool b2, .bool b3, .int .i64 p]; have bE3 := bE2.keep (S := fun _ => False) ((Chg.refl _ _).alloc (.cells #[.bool b0, .bool b1, .bool b2, .bool b3, .int .i64 p] 93)) (fun h => h); have q0 := bE3.cell 0 rfl; have q1 := bE3.cell 1 rfl; have q2 := bE3.cell 2 rfl; have q3 := bE3.cell 3 rfl; have q4 := bE3.cell 4 rfl; have q5 := bE3.cell 5 rfl; have q6 := bE3.cell 6 rfl; have q7 := bE3.cell 7 rfl; have q8 := bE3.cell 8 rfl; have p0 := bP3.cell 0 rfl; have p1 := bP3.cell 1 rfl; have p2 := bP3.cell 2 rfl; have p3 := bP3.cell 3 rfl; have p4 := bP3.cell 4 rfl)))
      go_ret
      exact ⟨by rw [← HRES.out]; rfl, (hc0.trans hc2 f).alloc _⟩
    · cases t2
      · go_enter Tryz.func28, Tryz.ntmps28
        go_wp2_with (first
          | (go_at_call 59; go_must (refine (rightDefs_any D dn dc dl _ ((HD.out.still hc0).still (((hc2'.trans hc4 (fun x hx => hx.elim)).trans hc5 (fun x hx => hx.elim)))) HDN.out hdn2 HNS.out).mono ?_; rintro e w6 ⟨rfl, hc6⟩; rw [E6.out]))
          | (go_at_call 58; go_must (refine (texts_any _ _ _ _ _ _ _ _ _ _ _ nm A n c D dn dc _ hs).mono ?_; rintro e w5 ⟨rfl, hc5⟩; rw [E5.out]; have bE5 := bE4.keep hc5 (fun h => h); have bP5 := bP4.keep hc5 (fun h => h); have s3 := bP5.cell 3 rfl; have s8 := bE5.cell 8 rfl))
          | (go_at_call 57; go_must (refine (numbers_any _ _ _ _ _ _ _ _ _ _ _ _ A n c D dn dc _).mono ?_; rintro e w4 ⟨rfl, hc4⟩; rw [E4.out]; have bE4 := bE3.keep hc4 (fun h => h); have bP4 := bP3.keep hc4 (fun h => h); have r0 := bE4.cell 0 rfl; have r1 := bE4.cell 1 rfl; have r2 := bE4.cell 2 rfl; have r3 := bE4.cell 3 rfl; have r4 := bE4.cell 4 rfl; have r5 := bE4.cell 5 rfl; have r6 := bE4.cell 6 rfl; have r7 := bE4.cell 7 rfl; have r8 := bE4.cell 8 rfl; have t0 := bP4.cell 0 rfl; have t1 := bP4.cell 1 rfl; have t2 := bP4.cell 2 rfl; have t3 := bP4.cell 3 rfl; have t4 := bP4.cell 4 rfl))
          | (go_at_call 56; go_must (refine (right_any _ _).mono ?_; rintro e w' ⟨rfl, rfl⟩; rw [E2.out]))
          | (go_at_call 55; (with_reducible refine (within_any tm 0 1099511627776 _).mono ?_); rintro e w' ⟨rfl, rfl⟩; rw [E3.out])
          | (go_at_call 55; go_must (refine (within_any id 1 200 _).mono ?_; rintro e w' ⟨rfl, rfl⟩; rw [E1.out]))
          | (go_at_call 54; go_must (refine (hnamed _).mono ?_; rintro e w2 ⟨rfl, hc2⟩; have hc2' : Chg (fun _ => False) (w.alloc (.cells #[.int .i64 id, .int .i64 ver, .int .i64 tm, .int .i64 ty, .int .i64 node, .int .i64 m, .string nm, .slice A n c, .slice D dn dc] 32)) (w2.alloc (.cells #[.bool b0, .bool b1, .bool b2, .bool b3, .int .i64 p] 93)) := hc2.alloc _; have bE2 := bE.keep hc2 (fun h => h); have bP3 := BoxAt.new w2 93 #[.bool b0, .bool b1, .bool b2, .bool b3, .int .i64 p]; have bE3 := bE2.keep (S := fun _ => False) ((Chg.refl _ _).alloc (.cells #[.bool b0, .bool b1, .bool b2, .bool b3, .int .i64 p] 93)) (fun h => h); have q0 := bE3.cell 0 rfl; have q1 := bE3.cell 1 rfl; have q2 := bE3.cell 2 rfl; have q3 := bE3.cell 3 rfl; have q4 := bE3.cell 4 rfl; have q5 := bE3.cell 5 rfl; have q6 := bE3.cell 6 rfl; have q7 := bE3.cell 7 rfl; have q8 := bE3.cell 8 rfl; have p0 := bP3.cell 0 rfl; have p1 := bP3.cell 1 rfl; have p2 := bP3.cell 2 rfl; have p3 := bP3.cell 3 rfl; have p4 := bP3.cell 4 rfl)))
        go_ret
        exact ⟨by rw [← HRES.out]; rfl, (hc0.trans hc2 f).alloc _⟩
      · cases t3
        · go_enter Tryz.func28, Tryz.ntmps28
          go_wp2_with (first
            | (go_at_call 59; go_must (refine (rightDefs_any D dn dc dl _ ((HD.out.still hc0).still (((hc2'.trans hc4 (fun x hx => hx.elim)).trans hc5 (fun x hx => hx.elim)))) HDN.out hdn2 HNS.out).mono ?_; rintro e w6 ⟨rfl, hc6⟩; rw [E6.out]))
            | (go_at_call 58; go_must (refine (texts_any _ _ _ _ _ _ _ _ _ _ _ nm A n c D dn dc _ hs).mono ?_; rintro e w5 ⟨rfl, hc5⟩; rw [E5.out]; have bE5 := bE4.keep hc5 (fun h => h); have bP5 := bP4.keep hc5 (fun h => h); have s3 := bP5.cell 3 rfl; have s8 := bE5.cell 8 rfl))
            | (go_at_call 57; go_must (refine (numbers_any _ _ _ _ _ _ _ _ _ _ _ _ A n c D dn dc _).mono ?_; rintro e w4 ⟨rfl, hc4⟩; rw [E4.out]; have bE4 := bE3.keep hc4 (fun h => h); have bP4 := bP3.keep hc4 (fun h => h); have r0 := bE4.cell 0 rfl; have r1 := bE4.cell 1 rfl; have r2 := bE4.cell 2 rfl; have r3 := bE4.cell 3 rfl; have r4 := bE4.cell 4 rfl; have r5 := bE4.cell 5 rfl; have r6 := bE4.cell 6 rfl; have r7 := bE4.cell 7 rfl; have r8 := bE4.cell 8 rfl; have t0 := bP4.cell 0 rfl; have t1 := bP4.cell 1 rfl; have t2 := bP4.cell 2 rfl; have t3 := bP4.cell 3 rfl; have t4 := bP4.cell 4 rfl))
            | (go_at_call 56; go_must (refine (right_any _ _).mono ?_; rintro e w' ⟨rfl, rfl⟩; rw [E2.out]))
            | (go_at_call 55; (with_reducible refine (within_any tm 0 1099511627776 _).mono ?_); rintro e w' ⟨rfl, rfl⟩; rw [E3.out])
            | (go_at_call 55; go_must (refine (within_any id 1 200 _).mono ?_; rintro e w' ⟨rfl, rfl⟩; rw [E1.out]))
            | (go_at_call 54; go_must (refine (hnamed _).mono ?_; rintro e w2 ⟨rfl, hc2⟩; have hc2' : Chg (fun _ => False) (w.alloc (.cells #[.int .i64 id, .int .i64 ver, .int .i64 tm, .int .i64 ty, .int .i64 node, .int .i64 m, .string nm, .slice A n c, .slice D dn dc] 32)) (w2.alloc (.cells #[.bool b0, .bool b1, .bool b2, .bool b3, .int .i64 p] 93)) := hc2.alloc _; have bE2 := bE.keep hc2 (fun h => h); have bP3 := BoxAt.new w2 93 #[.bool b0, .bool b1, .bool b2, .bool b3, .int .i64 p]; have bE3 := bE2.keep (S := fun _ => False) ((Chg.refl _ _).alloc (.cells #[.bool b0, .bool b1, .bool b2, .bool b3, .int .i64 p] 93)) (fun h => h); have q0 := bE3.cell 0 rfl; have q1 := bE3.cell 1 rfl; have q2 := bE3.cell 2 rfl; have q3 := bE3.cell 3 rfl; have q4 := bE3.cell 4 rfl; have q5 := bE3.cell 5 rfl; have q6 := bE3.cell 6 rfl; have q7 := bE3.cell 7 rfl; have q8 := bE3.cell 8 rfl; have p0 := bP3.cell 0 rfl; have p1 := bP3.cell 1 rfl; have p2 := bP3.cell 2 rfl; have p3 := bP3.cell 3 rfl; have p4 := bP3.cell 4 rfl)))
          go_ret
          exact ⟨by rw [← HRES.out]; rfl, (hc0.trans hc2 f).alloc _⟩
        · cases t4
          · go_enter Tryz.func28, Tryz.ntmps28
            go_wp2_with (first
              | (go_at_call 59; go_must (refine (rightDefs_any D dn dc dl _ ((HD.out.still hc0).still (((hc2'.trans hc4 (fun x hx => hx.elim)).trans hc5 (fun x hx => hx.elim)))) HDN.out hdn2 HNS.out).mono ?_; rintro e w6 ⟨rfl, hc6⟩; rw [E6.out]))
              | (go_at_call 58; go_must (refine (texts_any _ _ _ _ _ _ _ _ _ _ _ nm A n c D dn dc _ hs).mono ?_; rintro e w5 ⟨rfl, hc5⟩; rw [E5.out]; have bE5 := bE4.keep hc5 (fun h => h); have bP5 := bP4.keep hc5 (fun h => h); have s3 := bP5.cell 3 rfl; have s8 := bE5.cell 8 rfl))
              | (go_at_call 57; go_must (refine (numbers_any _ _ _ _ _ _ _ _ _ _ _ _ A n c D dn dc _).mono ?_; rintro e w4 ⟨rfl, hc4⟩; rw [E4.out]; have bE4 := bE3.keep hc4 (fun h => h); have bP4 := bP3.keep hc4 (fun h => h); have r0 := bE4.cell 0 rfl; have r1 := bE4.cell 1 rfl; have r2 := bE4.cell 2 rfl; have r3 := bE4.cell 3 rfl; have r4 := bE4.cell 4 rfl; have r5 := bE4.cell 5 rfl; have r6 := bE4.cell 6 rfl; have r7 := bE4.cell 7 rfl; have r8 := bE4.cell 8 rfl; have t0 := bP4.cell 0 rfl; have t1 := bP4.cell 1 rfl; have t2 := bP4.cell 2 rfl; have t3 := bP4.cell 3 rfl; have t4 := bP4.cell 4 rfl))
              | (go_at_call 56; go_must (refine (right_any _ _).mono ?_; rintro e w' ⟨rfl, rfl⟩; rw [E2.out]))
              | (go_at_call 55; (with_reducible refine (within_any tm 0 1099511627776 _).mono ?_); rintro e w' ⟨rfl, rfl⟩; rw [E3.out])
              | (go_at_call 55; go_must (refine (within_any id 1 200 _).mono ?_; rintro e w' ⟨rfl, rfl⟩; rw [E1.out]))
              | (go_at_call 54; go_must (refine (hnamed _).mono ?_; rintro e w2 ⟨rfl, hc2⟩; have hc2' : Chg (fun _ => False) (w.alloc (.cells #[.int .i64 id, .int .i64 ver, .int .i64 tm, .int .i64 ty, .int .i64 node, .int .i64 m, .string nm, .slice A n c, .slice D dn dc] 32)) (w2.alloc (.cells #[.bool b0, .bool b1, .bool b2, .bool b3, .int .i64 p] 93)) := hc2.alloc _; have bE2 := bE.keep hc2 (fun h => h); have bP3 := BoxAt.new w2 93 #[.bool b0, .bool b1, .bool b2, .bool b3, .int .i64 p]; have bE3 := bE2.keep (S := fun _ => False) ((Chg.refl _ _).alloc (.cells #[.bool b0, .bool b1, .bool b2, .bool b3, .int .i64 p] 93)) (fun h => h); have q0 := bE3.cell 0 rfl; have q1 := bE3.cell 1 rfl; have q2 := bE3.cell 2 rfl; have q3 := bE3.cell 3 rfl; have q4 := bE3.cell 4 rfl; have q5 := bE3.cell 5 rfl; have q6 := bE3.cell 6 rfl; have q7 := bE3.cell 7 rfl; have q8 := bE3.cell 8 rfl; have p0 := bP3.cell 0 rfl; have p1 := bP3.cell 1 rfl; have p2 := bP3.cell 2 rfl; have p3 := bP3.cell 3 rfl; have p4 := bP3.cell 4 rfl)))
            go_ret
            exact ⟨by rw [← HRES.out]; rfl, ((hc0.trans hc2 f).alloc _).trans hc4 f⟩
          · cases t5
            · go_enter Tryz.func28, Tryz.ntmps28
              go_wp2_with (first
                | (go_at_call 59; go_must (refine (rightDefs_any D dn dc dl _ ((HD.out.still hc0).still (((hc2'.trans hc4 (fun x hx => hx.elim)).trans hc5 (fun x hx => hx.elim)))) HDN.out hdn2 HNS.out).mono ?_; rintro e w6 ⟨rfl, hc6⟩; rw [E6.out]))
                | (go_at_call 58; go_must (refine (texts_any _ _ _ _ _ _ _ _ _ _ _ nm A n c D dn dc _ hs).mono ?_; rintro e w5 ⟨rfl, hc5⟩; rw [E5.out]; have bE5 := bE4.keep hc5 (fun h => h); have bP5 := bP4.keep hc5 (fun h => h); have s3 := bP5.cell 3 rfl; have s8 := bE5.cell 8 rfl))
                | (go_at_call 57; go_must (refine (numbers_any _ _ _ _ _ _ _ _ _ _ _ _ A n c D dn dc _).mono ?_; rintro e w4 ⟨rfl, hc4⟩; rw [E4.out]; have bE4 := bE3.keep hc4 (fun h => h); have bP4 := bP3.keep hc4 (fun h => h); have r0 := bE4.cell 0 rfl; have r1 := bE4.cell 1 rfl; have r2 := bE4.cell 2 rfl; have r3 := bE4.cell 3 rfl; have r4 := bE4.cell 4 rfl; have r5 := bE4.cell 5 rfl; have r6 := bE4.cell 6 rfl; have r7 := bE4.cell 7 rfl; have r8 := bE4.cell 8 rfl; have t0 := bP4.cell 0 rfl; have t1 := bP4.cell 1 rfl; have t2 := bP4.cell 2 rfl; have t3 := bP4.cell 3 rfl; have t4 := bP4.cell 4 rfl))
                | (go_at_call 56; go_must (refine (right_any _ _).mono ?_; rintro e w' ⟨rfl, rfl⟩; rw [E2.out]))
                | (go_at_call 55; (with_reducible refine (within_any tm 0 1099511627776 _).mono ?_); rintro e w' ⟨rfl, rfl⟩; rw [E3.out])
                | (go_at_call 55; go_must (refine (within_any id 1 200 _).mono ?_; rintro e w' ⟨rfl, rfl⟩; rw [E1.out]))
                | (go_at_call 54; go_must (refine (hnamed _).mono ?_; rintro e w2 ⟨rfl, hc2⟩; have hc2' : Chg (fun _ => False) (w.alloc (.cells #[.int .i64 id, .int .i64 ver, .int .i64 tm, .int .i64 ty, .int .i64 node, .int .i64 m, .string nm, .slice A n c, .slice D dn dc] 32)) (w2.alloc (.cells #[.bool b0, .bool b1, .bool b2, .bool b3, .int .i64 p] 93)) := hc2.alloc _; have bE2 := bE.keep hc2 (fun h => h); have bP3 := BoxAt.new w2 93 #[.bool b0, .bool b1, .bool b2, .bool b3, .int .i64 p]; have bE3 := bE2.keep (S := fun _ => False) ((Chg.refl _ _).alloc (.cells #[.bool b0, .bool b1, .bool b2, .bool b3, .int .i64 p] 93)) (fun h => h); have q0 := bE3.cell 0 rfl; have q1 := bE3.cell 1 rfl; have q2 := bE3.cell 2 rfl; have q3 := bE3.cell 3 rfl; have q4 := bE3.cell 4 rfl; have q5 := bE3.cell 5 rfl; have q6 := bE3.cell 6 rfl; have q7 := bE3.cell 7 rfl; have q8 := bE3.cell 8 rfl; have p0 := bP3.cell 0 rfl; have p1 := bP3.cell 1 rfl; have p2 := bP3.cell 2 rfl; have p3 := bP3.cell 3 rfl; have p4 := bP3.cell 4 rfl)))
              go_ret
              exact ⟨by rw [← HRES.out]; rfl, (((hc0.trans hc2 f).alloc _).trans hc4 f).trans hc5 f⟩
            · cases b3
              · have HDN2 := HDN
                go_enter Tryz.func28, Tryz.ntmps28
                go_wp2_with (first
                  | (go_at_call 59; go_must (refine (rightDefs_any D dn dc dl _ ((HD.out.still hc0).still (((hc2'.trans hc4 (fun x hx => hx.elim)).trans hc5 (fun x hx => hx.elim)))) HDN.out hdn2 HNS.out).mono ?_; rintro e w6 ⟨rfl, hc6⟩; rw [E6.out]))
                  | (go_at_call 58; go_must (refine (texts_any _ _ _ _ _ _ _ _ _ _ _ nm A n c D dn dc _ hs).mono ?_; rintro e w5 ⟨rfl, hc5⟩; rw [E5.out]; have bE5 := bE4.keep hc5 (fun h => h); have bP5 := bP4.keep hc5 (fun h => h); have s3 := bP5.cell 3 rfl; have s8 := bE5.cell 8 rfl))
                  | (go_at_call 57; go_must (refine (numbers_any _ _ _ _ _ _ _ _ _ _ _ _ A n c D dn dc _).mono ?_; rintro e w4 ⟨rfl, hc4⟩; rw [E4.out]; have bE4 := bE3.keep hc4 (fun h => h); have bP4 := bP3.keep hc4 (fun h => h); have r0 := bE4.cell 0 rfl; have r1 := bE4.cell 1 rfl; have r2 := bE4.cell 2 rfl; have r3 := bE4.cell 3 rfl; have r4 := bE4.cell 4 rfl; have r5 := bE4.cell 5 rfl; have r6 := bE4.cell 6 rfl; have r7 := bE4.cell 7 rfl; have r8 := bE4.cell 8 rfl; have t0 := bP4.cell 0 rfl; have t1 := bP4.cell 1 rfl; have t2 := bP4.cell 2 rfl; have t3 := bP4.cell 3 rfl; have t4 := bP4.cell 4 rfl))
                  | (go_at_call 56; go_must (refine (right_any _ _).mono ?_; rintro e w' ⟨rfl, rfl⟩; rw [E2.out]))
                  | (go_at_call 55; (with_reducible refine (within_any tm 0 1099511627776 _).mono ?_); rintro e w' ⟨rfl, rfl⟩; rw [E3.out])
                  | (go_at_call 55; go_must (refine (within_any id 1 200 _).mono ?_; rintro e w' ⟨rfl, rfl⟩; rw [E1.out]))
                  | (go_at_call 54; go_must (refine (hnamed _).mono ?_; rintro e w2 ⟨rfl, hc2⟩; have hc2' : Chg (fun _ => False) (w.alloc (.cells #[.int .i64 id, .int .i64 ver, .int .i64 tm, .int .i64 ty, .int .i64 node, .int .i64 m, .string nm, .slice A n c, .slice D dn dc] 32)) (w2.alloc (.cells #[.bool b0, .bool b1, .bool b2, .bool false, .int .i64 p] 93)) := hc2.alloc _; have bE2 := bE.keep hc2 (fun h => h); have bP3 := BoxAt.new w2 93 #[.bool b0, .bool b1, .bool b2, .bool false, .int .i64 p]; have bE3 := bE2.keep (S := fun _ => False) ((Chg.refl _ _).alloc (.cells #[.bool b0, .bool b1, .bool b2, .bool false, .int .i64 p] 93)) (fun h => h); have q0 := bE3.cell 0 rfl; have q1 := bE3.cell 1 rfl; have q2 := bE3.cell 2 rfl; have q3 := bE3.cell 3 rfl; have q4 := bE3.cell 4 rfl; have q5 := bE3.cell 5 rfl; have q6 := bE3.cell 6 rfl; have q7 := bE3.cell 7 rfl; have q8 := bE3.cell 8 rfl; have p0 := bP3.cell 0 rfl; have p1 := bP3.cell 1 rfl; have p2 := bP3.cell 2 rfl; have p3 := bP3.cell 3 rfl; have p4 := bP3.cell 4 rfl)))
                go_ret
                exact ⟨by rw [← HRES.out]; simp; by_cases h : dn = 0 <;> simp [h], (((hc0.trans hc2 f).alloc _).trans hc4 f).trans hc5 f⟩
              · go_enter Tryz.func28, Tryz.ntmps28
                go_wp2_with (first
                  | (go_at_call 59; go_must (refine (rightDefs_any D dn dc dl _ ((HD.out.still hc0).still (((hc2'.trans hc4 (fun x hx => hx.elim)).trans hc5 (fun x hx => hx.elim)))) HDN.out hdn2 HNS.out).mono ?_; rintro e w6 ⟨rfl, hc6⟩; rw [E6.out]))
                  | (go_at_call 58; go_must (refine (texts_any _ _ _ _ _ _ _ _ _ _ _ nm A n c D dn dc _ hs).mono ?_; rintro e w5 ⟨rfl, hc5⟩; rw [E5.out]; have bE5 := bE4.keep hc5 (fun h => h); have bP5 := bP4.keep hc5 (fun h => h); have s3 := bP5.cell 3 rfl; have s8 := bE5.cell 8 rfl))
                  | (go_at_call 57; go_must (refine (numbers_any _ _ _ _ _ _ _ _ _ _ _ _ A n c D dn dc _).mono ?_; rintro e w4 ⟨rfl, hc4⟩; rw [E4.out]; have bE4 := bE3.keep hc4 (fun h => h); have bP4 := bP3.keep hc4 (fun h => h); have r0 := bE4.cell 0 rfl; have r1 := bE4.cell 1 rfl; have r2 := bE4.cell 2 rfl; have r3 := bE4.cell 3 rfl; have r4 := bE4.cell 4 rfl; have r5 := bE4.cell 5 rfl; have r6 := bE4.cell 6 rfl; have r7 := bE4.cell 7 rfl; have r8 := bE4.cell 8 rfl; have t0 := bP4.cell 0 rfl; have t1 := bP4.cell 1 rfl; have t2 := bP4.cell 2 rfl; have t3 := bP4.cell 3 rfl; have t4 := bP4.cell 4 rfl))
                  | (go_at_call 56; go_must (refine (right_any _ _).mono ?_; rintro e w' ⟨rfl, rfl⟩; rw [E2.out]))
                  | (go_at_call 55; (with_reducible refine (within_any tm 0 1099511627776 _).mono ?_); rintro e w' ⟨rfl, rfl⟩; rw [E3.out])
                  | (go_at_call 55; go_must (refine (within_any id 1 200 _).mono ?_; rintro e w' ⟨rfl, rfl⟩; rw [E1.out]))
                  | (go_at_call 54; go_must (refine (hnamed _).mono ?_; rintro e w2 ⟨rfl, hc2⟩; have hc2' : Chg (fun _ => False) (w.alloc (.cells #[.int .i64 id, .int .i64 ver, .int .i64 tm, .int .i64 ty, .int .i64 node, .int .i64 m, .string nm, .slice A n c, .slice D dn dc] 32)) (w2.alloc (.cells #[.bool b0, .bool b1, .bool b2, .bool true, .int .i64 p] 93)) := hc2.alloc _; have bE2 := bE.keep hc2 (fun h => h); have bP3 := BoxAt.new w2 93 #[.bool b0, .bool b1, .bool b2, .bool true, .int .i64 p]; have bE3 := bE2.keep (S := fun _ => False) ((Chg.refl _ _).alloc (.cells #[.bool b0, .bool b1, .bool b2, .bool true, .int .i64 p] 93)) (fun h => h); have q0 := bE3.cell 0 rfl; have q1 := bE3.cell 1 rfl; have q2 := bE3.cell 2 rfl; have q3 := bE3.cell 3 rfl; have q4 := bE3.cell 4 rfl; have q5 := bE3.cell 5 rfl; have q6 := bE3.cell 6 rfl; have q7 := bE3.cell 7 rfl; have q8 := bE3.cell 8 rfl; have p0 := bP3.cell 0 rfl; have p1 := bP3.cell 1 rfl; have p2 := bP3.cell 2 rfl; have p3 := bP3.cell 3 rfl; have p4 := bP3.cell 4 rfl)))
                go_ret
                exact ⟨by rw [← HRES.out]; simp, ((((hc0.trans hc2 f).alloc _).trans hc4 f).trans hc5 f).trans hc6 f⟩
end Go.Proofs.YtngfimjbgopgjaaGreatDoor
