/- Contract of cutoverref8.Right at any event (gen_rfright.py). -/
import Derived.Test.YtngfimjbgopgjaaGreatDoorRfDefs
import Derived.Test.YtngfimjbgopgjaaGreatDoorVerRef
import Derived.Test.YtngfimjbgopgjaaGreatDoorEvLayGA
import Derived.Deep.CutBlock
import Derived.Deep.DeepCutAuto
namespace Go.Proofs.YtngfimjbgopgjaaGreatDoor
open Go.RowKit
set_option linter.unusedVariables false

theorem isNameB_size {s : ByteArray} (h : isNameB s = true) : s.size ≠ 0 := by
  intro h0
  rw [str_nil h0] at h
  exact absurd h (by decide)
theorem bytes_nil {s : ByteArray} (h : s.data.toList = []) : s = { data := #[] } := by
  obtain ⟨⟨x⟩⟩ := s
  simp at h
  rw [h]
theorem rightEB_eq {id ver tm ty node m : Int} {nm : ByteArray} {n : Nat} {dl : List (List Int × Int × Int)} : rightEB id ver tm ty node m nm n dl = true ↔
    ((1 ≤ id ∧ id ≤ 200) ∧ rightB ver = true ∧ (0 ≤ tm ∧ tm ≤ 1099511627776) ∧ (1 ≤ ty ∧ ty ≤ 12) ∧ (2 ≤ ty → ty ≤ 4 → 0 ≤ node ∧ node ≤ 7 ∧ 1 ≤ m ∧ m ≤ 5) ∧ (ty < 2 ∨ 4 < ty → node = 0) ∧ (ty = 5 → 1 ≤ m ∧ m ≤ 1048576) ∧ (ty < 2 ∨ 5 < ty → m = 0) ∧
     (5 ≤ ty → ty ≤ 7 → isNameB nm = true) ∧ (ty < 5 ∨ 7 < ty → nm.size = 0) ∧ (n = 0 ∨ ((ty = 3 ∨ ty = 7) ∧ n ≤ 40)) ∧ (ty = 1 → rightDefsB dl = true) ∧ (ty ≠ 1 → dl.length = 0)) := by
  have hz : isNameB nm = true → nm.size ≠ 0 := isNameB_size
  have hz2 : isNameB nm = true → ¬ nm = ByteArray.empty := fun h e => hz h (by rw [e]; rfl)
  by_cases hok : 1 ≤ ty ∧ ty ≤ 12
  · obtain ⟨h1, h2⟩ := hok
    rcases (by omega : ty = 1 ∨ ty = 2 ∨ ty = 3 ∨ ty = 4 ∨ ty = 5 ∨ ty = 6 ∨ ty = 7 ∨ ty = 8 ∨ ty = 9 ∨ ty = 10 ∨ ty = 11 ∨ ty = 12) with rfl | rfl | rfl | rfl | rfl | rfl | rfl | rfl | rfl | rfl | rfl | rfl
    all_goals
      simp [rightEB, okB, numB, txtB, nodeB, mostN, nameB, dataB, defsB]
      try grind
  · have hf : okB ty = false := by simp only [okB, Bool.and_eq_false_iff, decide_eq_false_iff_not]; omega
    simp only [rightEB, hf, Bool.false_and]
    constructor
    · intro h; cases h
    · intro h; exact absurd h.2.2.2.1 hok


set_option maxHeartbeats 8000000 in
set_option maxRecDepth 20000 in
theorem rRightE_any (id ver tm ty node m : Int) (nm : ByteArray) (A : Option Addr) (n c : Nat) (D : Option Addr) (dn dc : Nat) (dl : List Df) (w : World) (hs : nm.size ≤ 140737488355328) (hD : RdDf w D dl) (hdn : dl.length = dn) (hdn2 : dn ≤ 17592186044416) (hn2 : n ≤ 9223372036854775807) (hns : ∀ d ∈ dl, d.ns.length ≤ 17592186044416) :
    Calls Tryz.prog 29 #[.agg #[.int .i64 id, .int .i64 ver, .int .i64 tm, .int .i64 ty, .int .i64 node, .int .i64 m, .string nm, .slice A n c, .slice D dn dc]] w fun e w' => e = .returned (.bool (rightEB id ver tm ty node m nm n (dl.map Df.v))) ∧ Chg (fun _ => False) w w' := by
  obtain ⟨res, hres⟩ : ∃ res, res = rightEB id ver tm ty node m nm n (dl.map Df.v) := ⟨_, rfl⟩
  rw [← hres]
  have hyes : ((1 ≤ id ∧ id ≤ 200) ∧ rightB ver = true ∧ (0 ≤ tm ∧ tm ≤ 1099511627776) ∧ (1 ≤ ty ∧ ty ≤ 12) ∧ (2 ≤ ty → ty ≤ 4 → 0 ≤ node ∧ node ≤ 7 ∧ 1 ≤ m ∧ m ≤ 5) ∧ (ty < 2 ∨ 4 < ty → node = 0) ∧ (ty = 5 → 1 ≤ m ∧ m ≤ 1048576) ∧ (ty < 2 ∨ 5 < ty → m = 0) ∧
     (5 ≤ ty → ty ≤ 7 → isNameB nm = true) ∧ (ty < 5 ∨ 7 < ty → nm.size = 0) ∧ (n = 0 ∨ ((ty = 3 ∨ ty = 7) ∧ n ≤ 40)) ∧ (ty = 1 → rightDefsB (dl.map Df.v) = true) ∧ (ty ≠ 1 → dn = 0)) → res = true := fun h => by
    rw [hres]
    refine rightEB_eq.2 ⟨h.1, h.2.1, h.2.2.1, h.2.2.2.1, h.2.2.2.2.1, h.2.2.2.2.2.1, h.2.2.2.2.2.2.1, h.2.2.2.2.2.2.2.1, h.2.2.2.2.2.2.2.2.1, h.2.2.2.2.2.2.2.2.2.1, h.2.2.2.2.2.2.2.2.2.2.1, h.2.2.2.2.2.2.2.2.2.2.2.1, fun h2 => ?_⟩
    rw [List.length_map, hdn]
    exact h.2.2.2.2.2.2.2.2.2.2.2.2 h2
  have hno : res = true → ((1 ≤ id ∧ id ≤ 200) ∧ rightB ver = true ∧ (0 ≤ tm ∧ tm ≤ 1099511627776) ∧ (1 ≤ ty ∧ ty ≤ 12) ∧ (2 ≤ ty → ty ≤ 4 → 0 ≤ node ∧ node ≤ 7 ∧ 1 ≤ m ∧ m ≤ 5) ∧ (ty < 2 ∨ 4 < ty → node = 0) ∧ (ty = 5 → 1 ≤ m ∧ m ≤ 1048576) ∧ (ty < 2 ∨ 5 < ty → m = 0) ∧
     (5 ≤ ty → ty ≤ 7 → isNameB nm = true) ∧ (ty < 5 ∨ 7 < ty → nm.size = 0) ∧ (n = 0 ∨ ((ty = 3 ∨ ty = 7) ∧ n ≤ 40)) ∧ (ty = 1 → rightDefsB (dl.map Df.v) = true) ∧ (ty ≠ 1 → dn = 0)) := fun h => by
    rw [hres] at h
    have h := rightEB_eq.1 h
    rw [List.length_map, hdn] at h
    exact h
  have HYES := Lib.hid hyes
  have HNO := Lib.hid hno
  have bE := BoxAt.new w 32 #[.int .i64 id, .int .i64 ver, .int .i64 tm, .int .i64 ty, .int .i64 node, .int .i64 m, .string nm, .slice A n c, .slice D dn dc]
  have hc0 : Chg (fun _ => False) w (w.alloc (.cells #[.int .i64 id, .int .i64 ver, .int .i64 tm, .int .i64 ty, .int .i64 node, .int .i64 m, .string nm, .slice A n c, .slice D dn dc] 32)) := (Chg.refl _ _).alloc _
  have hV := fun w' => rRight_any ver w'
  have hI := fun w' => risName_any nm w' hs
  have hDD := fun w' (hw : Chg (fun _ => False) w w') => rrightDefs_any D dn dc dl w' (hD.still hw) hdn hdn2 hns
  obtain ⟨bv, hbv⟩ : ∃ b, rightB ver = b := ⟨_, rfl⟩
  obtain ⟨bi, hbi⟩ : ∃ b, isNameB nm = b := ⟨_, rfl⟩
  obtain ⟨bd, hbd⟩ : ∃ b, rightDefsB (dl.map Df.v) = b := ⟨_, rfl⟩
  rw [hbv] at hV
  rw [hbi] at hI
  rw [hbd] at hDD
  have HBV := Lib.hid hbv
  have HBI := Lib.hid hbi
  have HBD := Lib.hid hbd
  clear hyes hno hres hD hns hbv hbi hbd hdn
  obtain ⟨w1, hw1⟩ : ∃ w1, w1 = w.alloc (.cells #[.int .i64 id, .int .i64 ver, .int .i64 tm, .int .i64 ty, .int .i64 node, .int .i64 m, .string nm, .slice A n c, .slice D dn dc] 32) := ⟨_, rfl⟩
  rw [← hw1] at bE hc0
  go_enter Tryz.func29, Tryz.ntmps29
  go_upto_region 1 with fail
  rw [← hw1]
  clear hw1
  have q0 := bE.cell 0 rfl
  have q1 := bE.cell 1 rfl
  have q2 := bE.cell 2 rfl
  have q3 := bE.cell 3 rfl
  have q4 := bE.cell 4 rfl
  have q5 := bE.cell 5 rfl
  have q6 := bE.cell 6 rfl
  have q7 := bE.cell 7 rfl
  have q8 := bE.cell 8 rfl
  go_cut [39] from 6 to 38 (fun v w' => (∃ b : Bool, v = .bool b ∧ (b = false ↔ ((1 ≤ id ∧ id ≤ 200) ∧ bv = true ∧ (0 ≤ tm ∧ tm ≤ 1099511627776) ∧ (1 ≤ ty ∧ ty ≤ 12)))) ∧ w' = w1)
  case first =>
    clear q4 q5 q6 q7 q8
    by_cases k1 : id < 1
    · go_wp2_with (go_at_call 60; go_must (refine (hV _).mono ?_; rintro e w' ⟨rfl, rfl⟩))
      go_meet
      exact ⟨⟨_, rfl, fun h => (by cases h), fun ⟨g1, g2, g3, g4⟩ => (by omega)⟩, rfl⟩
    · skip
      by_cases k2 : 200 < id
      · go_wp2_with (go_at_call 60; go_must (refine (hV _).mono ?_; rintro e w' ⟨rfl, rfl⟩))
        go_meet
        exact ⟨⟨_, rfl, fun h => (by cases h), fun ⟨g1, g2, g3, g4⟩ => (by omega)⟩, rfl⟩
      · skip
        cases bv
        · go_wp2_with (go_at_call 60; go_must (refine (hV _).mono ?_; rintro e w' ⟨rfl, rfl⟩))
          go_meet
          exact ⟨⟨_, rfl, fun h => (by cases h), fun h => absurd h.2.1 (by decide)⟩, rfl⟩
        · skip
          by_cases k3 : tm < 0
          · go_wp2_with (go_at_call 60; go_must (refine (hV _).mono ?_; rintro e w' ⟨rfl, rfl⟩))
            go_meet
            exact ⟨⟨_, rfl, fun h => (by cases h), fun ⟨g1, g2, g3, g4⟩ => (by omega)⟩, rfl⟩
          · skip
            by_cases k4 : 1099511627776 < tm
            · go_wp2_with (go_at_call 60; go_must (refine (hV _).mono ?_; rintro e w' ⟨rfl, rfl⟩))
              go_meet
              exact ⟨⟨_, rfl, fun h => (by cases h), fun ⟨g1, g2, g3, g4⟩ => (by omega)⟩, rfl⟩
            · skip
              by_cases k5 : ty < 1
              · go_wp2_with (go_at_call 60; go_must (refine (hV _).mono ?_; rintro e w' ⟨rfl, rfl⟩))
                go_meet
                exact ⟨⟨_, rfl, fun h => (by cases h), fun ⟨g1, g2, g3, g4⟩ => (by omega)⟩, rfl⟩
              · skip
                by_cases k6 : 12 < ty
                · go_wp2_with (go_at_call 60; go_must (refine (hV _).mono ?_; rintro e w' ⟨rfl, rfl⟩))
                  go_meet
                  exact ⟨⟨_, rfl, fun h => (by cases h), fun ⟨g1, g2, g3, g4⟩ => (by omega)⟩, rfl⟩
                · skip
                  go_wp2_with (go_at_call 60; go_must (refine (hV _).mono ?_; rintro e w' ⟨rfl, rfl⟩))
                  go_meet
                  exact ⟨⟨_, rfl, fun _ => ⟨⟨by omega, by omega⟩, by first | rfl | trivial, ⟨by omega, by omega⟩, ⟨by omega, by omega⟩⟩, fun _ => by first | rfl | (simp; omega)⟩, rfl⟩
  case rest =>
    obtain ⟨⟨b, rfl, hb⟩, rfl⟩ := hcut
    cases b
    · obtain ⟨⟨k1, k2⟩, kv, ⟨k3, k4⟩, ⟨k5, k6⟩⟩ := hb.1 rfl
      clear hb
      subst kv
      go_upto_region 3 with fail
      go_cut [3] from 40 to 52 (fun v w' => (∃ b : Bool, v = .bool b ∧ (b = true ↔ (2 ≤ ty ∧ ty ≤ 4))) ∧ w' = wc)
      case first =>
        rcases (by omega : ty = 2 ∨ ty = 3 ∨ ty = 4 ∨ (¬ ty = 2 ∧ ¬ ty = 3 ∧ ¬ ty = 4)) with rfl | rfl | rfl | h
        · go_wp2_with fail
          go_meet
          exact ⟨⟨_, rfl, fun _ => (by first | omega | trivial | simp), fun _ => rfl⟩, rfl⟩
        · go_wp2_with fail
          go_meet
          exact ⟨⟨_, rfl, fun _ => (by first | omega | trivial | simp), fun _ => rfl⟩, rfl⟩
        · go_wp2_with fail
          go_meet
          exact ⟨⟨_, rfl, fun _ => (by first | omega | trivial | simp), fun _ => rfl⟩, rfl⟩
        · obtain ⟨t2, t3, t4⟩ := h
          go_wp2_with fail
          go_meet
          exact ⟨⟨_, rfl, fun h => (by simp at h; omega), fun h => (by omega)⟩, rfl⟩
      case rest =>
        obtain ⟨⟨nb, rfl, nbh⟩, rfl⟩ := hcut
        go_upto_region 4 with fail
        go_cut [4] from 53 to 65 (fun v w' => (∃ b : Bool, v = .bool b ∧ (b = true ↔ (5 ≤ ty ∧ ty ≤ 7))) ∧ w' = wc)
        case first =>
          rcases (by omega : ty = 5 ∨ ty = 6 ∨ ty = 7 ∨ (¬ ty = 5 ∧ ¬ ty = 6 ∧ ¬ ty = 7)) with rfl | rfl | rfl | h
          · go_wp2_with fail
            go_meet
            exact ⟨⟨_, rfl, fun _ => (by first | omega | trivial | simp), fun _ => rfl⟩, rfl⟩
          · go_wp2_with fail
            go_meet
            exact ⟨⟨_, rfl, fun _ => (by first | omega | trivial | simp), fun _ => rfl⟩, rfl⟩
          · go_wp2_with fail
            go_meet
            exact ⟨⟨_, rfl, fun _ => (by first | omega | trivial | simp), fun _ => rfl⟩, rfl⟩
          · obtain ⟨t5, t6, t7⟩ := h
            go_wp2_with fail
            go_meet
            exact ⟨⟨_, rfl, fun h => (by simp at h; omega), fun h => (by omega)⟩, rfl⟩
        case rest =>
          obtain ⟨⟨mb, rfl, mbh⟩, rfl⟩ := hcut
          go_upto_region 5 with fail
          go_cut [5] from 66 to 73 (fun v w' => (∃ b : Bool, v = .bool b ∧ (b = true ↔ (ty = 3 ∨ ty = 7))) ∧ w' = wc)
          case first =>
            rcases (by omega : ty = 3 ∨ ty = 7 ∨ (¬ ty = 3 ∧ ¬ ty = 7)) with rfl | rfl | h
            · go_wp2_with fail
              go_meet
              exact ⟨⟨_, rfl, fun _ => (by first | omega | trivial | simp), fun _ => rfl⟩, rfl⟩
            · go_wp2_with fail
              go_meet
              exact ⟨⟨_, rfl, fun _ => (by first | omega | trivial | simp), fun _ => rfl⟩, rfl⟩
            · obtain ⟨t3, t7⟩ := h
              go_wp2_with fail
              go_meet
              exact ⟨⟨_, rfl, fun h => (by simp at h; omega), fun h => (by omega)⟩, rfl⟩
          case rest =>
            obtain ⟨⟨db, rfl, dbh⟩, rfl⟩ := hcut
            have hc := hc0
            go_upto_block 0 with fail
            go_cut [74] from 75 to 86 (fun _ w' => ((ty = 1 → bd = true) ∧ (ty ≠ 1 → dn = 0)) ∧ Chg (fun _ => False) wc w')
            case first =>
              by_cases t1 : ty = 1
              · subst t1
                cases bd
                · go_wp2_with (go_at_call 61; go_must (refine (hDD _ hc).mono ?_; rintro e w6 ⟨rfl, hc6⟩))
                  go_ret
                  have hr : res = false := (Bool.eq_false_iff.2 (fun h => by obtain ⟨a1, a2, a3, a4, a5, a6, a7, a8, a9, a10, a11, a12, a13⟩ := HNO.out h; have b9 := HBI.out; have b12 := HBD.out; (rw [a12 (by first | trivial | rfl | omega)] at b12; cases b12)))
                  exact ⟨by rw [hr]; rfl, hc.trans hc6 (fun x hx => hx.elim)⟩
                · go_wp2_with (go_at_call 61; go_must (refine (hDD _ hc).mono ?_; rintro e w6 ⟨rfl, hc6⟩))
                  go_meet
                  exact ⟨⟨fun _ => (by first | rfl | trivial), fun h => (by first | exact absurd rfl h | omega)⟩, hc6⟩
              · by_cases d0 : 0 < (dn : Int)
                · go_wp2_with fail
                  go_ret
                  have hr : res = false := (Bool.eq_false_iff.2 (fun h => by obtain ⟨a1, a2, a3, a4, a5, a6, a7, a8, a9, a10, a11, a12, a13⟩ := HNO.out h; have b9 := HBI.out; have b12 := HBD.out; omega))
                  exact ⟨by rw [hr]; rfl, hc⟩
                · go_wp2_with fail
                  go_meet
                  exact ⟨⟨fun h => absurd h t1, fun _ => by omega⟩, Chg.refl _ _⟩
            case rest =>
              obtain ⟨⟨pd1, pd2⟩, hcS⟩ := hcut
              have PD1 := Lib.hid pd1
              have PD2 := Lib.hid pd2
              clear pd1 pd2
              have NBH := Lib.hid nbh
              have MBH := Lib.hid mbh
              have DBH := Lib.hid dbh
              clear nbh mbh dbh
              have hcX := hc.trans hcS (fun x hx => hx.elim)
              have bE2 := bE.keep hcS (fun h => h)
              clear hc hc0 bE hcS q0 q1 q2 q3 q4 q5 q6 q7 q8 hDD hV
              have q3 := bE2.cell 3 rfl
              have q4 := bE2.cell 4 rfl
              have q5 := bE2.cell 5 rfl
              have q6 := bE2.cell 6 rfl
              have q7 := bE2.cell 7 rfl
              clear bE2
              go_upto_region 11 with fail
              go_cut [116] from 87 to 115 (fun v w' => (∃ b : Bool, v = .bool b ∧ (b = false ↔ ((2 ≤ ty → ty ≤ 4 → 0 ≤ node ∧ node ≤ 7 ∧ 1 ≤ m ∧ m ≤ 5) ∧ (ty < 2 ∨ 4 < ty → node = 0)))) ∧ w' = wc)
              case first =>
                cases nb
                · have HTY : Hid (ty < 2 ∨ 4 < ty) := Lib.hid (by have h := NBH.out.2; by_cases hh : 2 ≤ ty ∧ ty ≤ 4; (exact absurd (h hh) (by decide)); omega)
                  by_cases e1 : node = 0
                  · subst e1
                    go_wp2_with fail
                    go_meet
                    exact ⟨⟨_, rfl, fun h => (by have hty := HTY.out; first | (refine ⟨?_, ?_⟩ <;> intros <;> first | trivial | omega) | (intros; omega)), fun h => (by first | rfl | (simp; omega))⟩, rfl⟩
                  · have e2 : decide (node = 0) = false := by simpa using e1
                    have e3 : (node == 0) = false := by simpa using e1
                    go_wp2_with fail
                    go_meet
                    exact ⟨⟨_, rfl, fun h => (by first | (cases h; done) | (simp at h; omega)), fun h => (by have hty := HTY.out; first | omega | (simp; omega) | (exfalso; have h1 := h.1 (by first | trivial | omega); omega) | (exfalso; have h1 := h.2 (by first | trivial | omega); omega) | (have h1 := h.1; have h2 := h.2; exfalso; omega) | (exfalso; have h1 := h.1 (by omega) (by omega); omega) | (exfalso; have h1 := h.1 (by omega); omega) | (exfalso; have h1 := h.2 (by omega); omega))⟩, rfl⟩
                · have HTY := Lib.hid (NBH.out.1 rfl)
                  by_cases e1 : node < 0
                  · skip
                    go_wp2_with fail
                    go_meet
                    exact ⟨⟨_, rfl, fun h => (by first | (cases h; done) | (simp at h; omega)), fun h => (by have hty := HTY.out; first | omega | (simp; omega) | (exfalso; have h1 := h.1 (by first | trivial | omega); omega) | (exfalso; have h1 := h.2 (by first | trivial | omega); omega) | (have h1 := h.1; have h2 := h.2; exfalso; omega) | (exfalso; have h1 := h.1 (by omega) (by omega); omega) | (exfalso; have h1 := h.1 (by omega); omega) | (exfalso; have h1 := h.2 (by omega); omega))⟩, rfl⟩
                  · skip
                    by_cases e2 : 8 ≤ node
                    · skip
                      go_wp2_with fail
                      go_meet
                      exact ⟨⟨_, rfl, fun h => (by first | (cases h; done) | (simp at h; omega)), fun h => (by have hty := HTY.out; first | omega | (simp; omega) | (exfalso; have h1 := h.1 (by first | trivial | omega); omega) | (exfalso; have h1 := h.2 (by first | trivial | omega); omega) | (have h1 := h.1; have h2 := h.2; exfalso; omega) | (exfalso; have h1 := h.1 (by omega) (by omega); omega) | (exfalso; have h1 := h.1 (by omega); omega) | (exfalso; have h1 := h.2 (by omega); omega))⟩, rfl⟩
                    · skip
                      by_cases e3 : m < 1
                      · skip
                        go_wp2_with fail
                        go_meet
                        exact ⟨⟨_, rfl, fun h => (by first | (cases h; done) | (simp at h; omega)), fun h => (by have hty := HTY.out; first | omega | (simp; omega) | (exfalso; have h1 := h.1 (by first | trivial | omega); omega) | (exfalso; have h1 := h.2 (by first | trivial | omega); omega) | (have h1 := h.1; have h2 := h.2; exfalso; omega) | (exfalso; have h1 := h.1 (by omega) (by omega); omega) | (exfalso; have h1 := h.1 (by omega); omega) | (exfalso; have h1 := h.2 (by omega); omega))⟩, rfl⟩
                      · skip
                        by_cases e4 : 5 < m
                        · skip
                          go_wp2_with fail
                          go_meet
                          exact ⟨⟨_, rfl, fun h => (by first | (cases h; done) | (simp at h; omega)), fun h => (by have hty := HTY.out; first | omega | (simp; omega) | (exfalso; have h1 := h.1 (by first | trivial | omega); omega) | (exfalso; have h1 := h.2 (by first | trivial | omega); omega) | (have h1 := h.1; have h2 := h.2; exfalso; omega) | (exfalso; have h1 := h.1 (by omega) (by omega); omega) | (exfalso; have h1 := h.1 (by omega); omega) | (exfalso; have h1 := h.2 (by omega); omega))⟩, rfl⟩
                        · skip
                          go_wp2_with fail
                          go_meet
                          exact ⟨⟨_, rfl, fun h => (by have hty := HTY.out; first | (refine ⟨?_, ?_⟩ <;> intros <;> first | trivial | omega) | (intros; omega)), fun h => (by first | rfl | (simp; omega))⟩, rfl⟩
              case rest =>
                obtain ⟨⟨b, rfl, hb⟩, rfl⟩ := hcut
                cases b
                rotate_left
                · have hbad : ¬ ((2 ≤ ty → ty ≤ 4 → 0 ≤ node ∧ node ≤ 7 ∧ 1 ≤ m ∧ m ≤ 5) ∧ (ty < 2 ∨ 4 < ty → node = 0)) := fun h => Bool.noConfusion (hb.2 h)
                  clear hb
                  go_wp2_with fail
                  go_ret
                  have hr : res = false := (Bool.eq_false_iff.2 (fun h => by obtain ⟨a1, a2, a3, a4, a5, a6, a7, a8, a9, a10, a11, a12, a13⟩ := HNO.out h; have b9 := HBI.out; have b12 := HBD.out; exact hbad ⟨a5, a6⟩))
                  exact ⟨by rw [hr]; rfl, hcX⟩
                have P11 := Lib.hid (hb.1 rfl)
                clear hb
                go_upto_region 13 with fail
                go_cut [143] from 117 to 142 (fun v w' => (∃ b : Bool, v = .bool b ∧ (b = false ↔ ((ty = 5 → 1 ≤ m ∧ m ≤ 1048576) ∧ (ty < 2 ∨ 5 < ty → m = 0)))) ∧ w' = wc)
                case first =>
                  by_cases t5 : ty = 5
                  · subst t5
                    have hnb : nb = false := by cases nb; rfl; exact absurd (NBH.out.1 rfl) (by omega)
                    subst hnb
                    have HTY : Hid (5 ≤ (5 : Int)) := Lib.hid (by omega)
                    by_cases e3 : m < 1
                    · skip
                      go_wp2_with fail
                      go_meet
                      exact ⟨⟨_, rfl, fun h => (by first | (cases h; done) | (simp at h; omega)), fun h => (by have hty := HTY.out; first | omega | (simp; omega) | (exfalso; have h1 := h.1 (by first | trivial | omega); omega) | (exfalso; have h1 := h.2 (by first | trivial | omega); omega) | (have h1 := h.1; have h2 := h.2; exfalso; omega) | (exfalso; have h1 := h.1 (by omega) (by omega); omega) | (exfalso; have h1 := h.1 (by omega); omega) | (exfalso; have h1 := h.2 (by omega); omega))⟩, rfl⟩
                    · skip
                      by_cases e4 : 1048576 < m
                      · skip
                        go_wp2_with fail
                        go_meet
                        exact ⟨⟨_, rfl, fun h => (by first | (cases h; done) | (simp at h; omega)), fun h => (by have hty := HTY.out; first | omega | (simp; omega) | (exfalso; have h1 := h.1 (by first | trivial | omega); omega) | (exfalso; have h1 := h.2 (by first | trivial | omega); omega) | (have h1 := h.1; have h2 := h.2; exfalso; omega) | (exfalso; have h1 := h.1 (by omega) (by omega); omega) | (exfalso; have h1 := h.1 (by omega); omega) | (exfalso; have h1 := h.2 (by omega); omega))⟩, rfl⟩
                      · skip
                        go_wp2_with fail
                        go_meet
                        exact ⟨⟨_, rfl, fun h => (by have hty := HTY.out; first | (refine ⟨?_, ?_⟩ <;> intros <;> first | trivial | omega) | (intros; omega)), fun h => (by first | rfl | (simp; omega))⟩, rfl⟩
                  · cases nb
                    · have HTY : Hid (ty < 2 ∨ 4 < ty) := Lib.hid (by have h := NBH.out.2; by_cases hh : 2 ≤ ty ∧ ty ≤ 4; (exact absurd (h hh) (by decide)); omega)
                      by_cases e1 : m = 0
                      · subst e1
                        go_wp2_with fail
                        go_meet
                        exact ⟨⟨_, rfl, fun h => (by have hty := HTY.out; first | (refine ⟨?_, ?_⟩ <;> intros <;> first | trivial | omega) | (intros; omega)), fun h => (by first | rfl | (simp; omega))⟩, rfl⟩
                      · have e2 : decide (m = 0) = false := by simpa using e1
                        have e3 : (m == 0) = false := by simpa using e1
                        go_wp2_with fail
                        go_meet
                        exact ⟨⟨_, rfl, fun h => (by first | (cases h; done) | (simp at h; omega)), fun h => (by have hty := HTY.out; first | omega | (simp; omega) | (exfalso; have h1 := h.1 (by first | trivial | omega); omega) | (exfalso; have h1 := h.2 (by first | trivial | omega); omega) | (have h1 := h.1; have h2 := h.2; exfalso; omega) | (exfalso; have h1 := h.1 (by omega) (by omega); omega) | (exfalso; have h1 := h.1 (by omega); omega) | (exfalso; have h1 := h.2 (by omega); omega))⟩, rfl⟩
                    · have HTY := Lib.hid (NBH.out.1 rfl)
                      go_wp2_with fail
                      go_meet
                      exact ⟨⟨_, rfl, fun h => (by have hty := HTY.out; first | (refine ⟨?_, ?_⟩ <;> intros <;> first | trivial | omega) | (intros; omega)), fun h => (by first | rfl | (simp; omega))⟩, rfl⟩
                case rest =>
                  obtain ⟨⟨b, rfl, hb⟩, rfl⟩ := hcut
                  cases b
                  rotate_left
                  · have hbad : ¬ ((ty = 5 → 1 ≤ m ∧ m ≤ 1048576) ∧ (ty < 2 ∨ 5 < ty → m = 0)) := fun h => Bool.noConfusion (hb.2 h)
                    clear hb
                    go_wp2_with fail
                    go_ret
                    have hr : res = false := (Bool.eq_false_iff.2 (fun h => by obtain ⟨a1, a2, a3, a4, a5, a6, a7, a8, a9, a10, a11, a12, a13⟩ := HNO.out h; have b9 := HBI.out; have b12 := HBD.out; exact hbad ⟨a7, a8⟩))
                    exact ⟨by rw [hr]; rfl, hcX⟩
                  have P13 := Lib.hid (hb.1 rfl)
                  clear hb
                  go_upto_region 15 with fail
                  go_cut [159] from 144 to 158 (fun v w' => (∃ b : Bool, v = .bool b ∧ (b = false ↔ ((5 ≤ ty → ty ≤ 7 → bi = true) ∧ (ty < 5 ∨ 7 < ty → nm.size = 0)))) ∧ w' = wc)
                  case first =>
                    cases mb
                    · have HTY : Hid (ty < 5 ∨ 7 < ty) := Lib.hid (by have h := MBH.out.2; by_cases hh : 5 ≤ ty ∧ ty ≤ 7; (exact absurd (h hh) (by decide)); omega)
                      by_cases gn : nm.size = 0
                      · obtain rfl := str_nil gn
                        go_wp2_with (go_at_call 62; go_must (refine (hI _).mono ?_; rintro e w' ⟨rfl, rfl⟩))
                        go_meet
                        exact ⟨⟨_, rfl, fun h => ⟨fun _ _ => (by have hty := HTY.out; omega), fun _ => gn⟩, fun h => (by first | rfl | (simp; omega))⟩, rfl⟩
                      · have gn1 : ¬ nm = { data := #[] } := fun e => gn (by rw [e]; rfl)
                        have gn2 : decide (nm = { data := #[] }) = false := by simpa using gn1
                        have gn4 : ¬ nm.toList = [] := fun e => gn1 (by rw [ByteArray.toList_eq] at e; exact bytes_nil e)
                        have gn3 : (nm.toList == []) = false := by simpa using gn4
                        go_wp2_with (go_at_call 62; go_must (refine (hI _).mono ?_; rintro e w' ⟨rfl, rfl⟩))
                        go_meet
                        exact ⟨⟨_, rfl, fun h => (by first | (cases h; done) | (simp at h; exact absurd h gn4) | simp_all), fun h => absurd (h.2 HTY.out) gn⟩, rfl⟩
                    · have HTY := Lib.hid (MBH.out.1 rfl)
                      cases bi
                      · go_wp2_with (go_at_call 62; go_must (refine (hI _).mono ?_; rintro e w' ⟨rfl, rfl⟩))
                        go_meet
                        exact ⟨⟨_, rfl, fun h => (by cases h), fun h => absurd (h.1 HTY.out.1 HTY.out.2) (by decide)⟩, rfl⟩
                      · go_wp2_with (go_at_call 62; go_must (refine (hI _).mono ?_; rintro e w' ⟨rfl, rfl⟩))
                        go_meet
                        exact ⟨⟨_, rfl, fun h => ⟨fun _ _ => (by first | rfl | trivial), fun _ => (by have hty := HTY.out; omega)⟩, fun _ => rfl⟩, rfl⟩
                  case rest =>
                    obtain ⟨⟨b, rfl, hb⟩, rfl⟩ := hcut
                    cases b
                    rotate_left
                    · have hbad : ¬ ((5 ≤ ty → ty ≤ 7 → bi = true) ∧ (ty < 5 ∨ 7 < ty → nm.size = 0)) := fun h => Bool.noConfusion (hb.2 h)
                      clear hb
                      go_wp2_with fail
                      go_ret
                      have hr : res = false := (Bool.eq_false_iff.2 (fun h => by obtain ⟨a1, a2, a3, a4, a5, a6, a7, a8, a9, a10, a11, a12, a13⟩ := HNO.out h; have b9 := HBI.out; have b12 := HBD.out; exact hbad ⟨fun g1 g2 => by rw [← b9]; exact a9 g1 g2, a10⟩))
                      exact ⟨by rw [hr]; rfl, hcX⟩
                    have P15 := Lib.hid (hb.1 rfl)
                    clear hb
                    have hgood : (n = 0 ∨ ((ty = 3 ∨ ty = 7) ∧ n ≤ 40)) → res = true := fun hh => HYES.out ⟨⟨k1, k2⟩, HBV.out, ⟨k3, k4⟩, ⟨k5, k6⟩, P11.out.1, P11.out.2, P13.out.1, P13.out.2, fun g1 g2 => by rw [HBI.out]; exact P15.out.1 g1 g2, P15.out.2, hh, fun g => by rw [HBD.out]; exact PD1.out g, PD2.out⟩
                    have hnot : ¬ (n = 0 ∨ ((ty = 3 ∨ ty = 7) ∧ n ≤ 40)) → res = false := fun hh => Bool.eq_false_iff.2 (fun h => hh (HNO.out h).2.2.2.2.2.2.2.2.2.2.1)
                    have HG := Lib.hid hgood
                    have HNT := Lib.hid hnot
                    clear hgood hnot
                    have f1 : n = 0 → ((n : Int) == 0) = true := fun h => by simp; omega
                    by_cases g0 : n = 0
                    · have hr : res = true := HG.out (.inl g0)
                      have HRR := Lib.hid hr
                      clear hr
                      have g1 : ((n : Int) == 0) = true := by simp; omega
                      have g2 : decide ((n : Int) = 0) = true := by simp; omega
                      have g3 : (n : Int) ≤ 40 := by omega
                      have g4 : (n : Int) = 0 := by omega
                      clear g0
                      cases db
                      · go_wp2_with fail
                        go_ret
                        exact ⟨by rw [HRR.out]; rfl, hcX⟩
                      · go_wp2_with fail
                        go_ret
                        exact ⟨by rw [HRR.out]; rfl, hcX⟩
                    · have g1 : ((n : Int) == 0) = false := by simp; omega
                      have g2 : decide ((n : Int) = 0) = false := by simp; omega
                      cases db
                      · have hr : res = false := HNT.out (fun hh => by rcases hh with hh | ⟨hh, _⟩; (exact g0 hh); exact absurd (DBH.out.2 hh) (by decide))
                        have HRR := Lib.hid hr
                        clear hr
                        go_wp2_with fail
                        go_ret
                        exact ⟨by rw [HRR.out]; rfl, hcX⟩
                      · by_cases g3 : (n : Int) ≤ 40
                        · have hr : res = true := HG.out (.inr ⟨DBH.out.1 rfl, by omega⟩)
                          have HRR := Lib.hid hr
                          clear hr
                          go_wp2_with fail
                          go_ret
                          exact ⟨by rw [HRR.out]; rfl, hcX⟩
                        · have hr : res = false := HNT.out (fun hh => by omega)
                          have HRR := Lib.hid hr
                          clear hr
                          go_wp2_with fail
                          go_ret
                          exact ⟨by rw [HRR.out]; rfl, hcX⟩
    · have hbad : ¬ ((1 ≤ id ∧ id ≤ 200) ∧ bv = true ∧ (0 ≤ tm ∧ tm ≤ 1099511627776) ∧ (1 ≤ ty ∧ ty ≤ 12)) := fun h => by have := hb.2 h; cases this
      clear hb
      go_wp2_with fail
      go_ret
      have hr : res = false := (Bool.eq_false_iff.2 (fun h => hbad (by obtain ⟨a1, a2, a3, a4, _⟩ := HNO.out h; exact ⟨a1, by rw [← HBV.out]; exact a2, a3, a4⟩)))
      exact ⟨by rw [hr]; rfl, hc0⟩
end Go.Proofs.YtngfimjbgopgjaaGreatDoor
