/- Defs of an event in memory; contracts of event.rightDef, rightDefs. -/
import Derived.Test.YtngfimjbgopgjaaGreatDoorEvRightA
namespace Go.Proofs.YtngfimjbgopgjaaGreatDoor
open Go.RowKit
set_option linter.unusedVariables false

/-- A Def: where its needs lie, how many may lie there, the needs, tries, lease. -/
structure Df where
  A : Option Addr
  c : Nat
  ns : List Int
  tr : Int
  le : Int
/-- What a Def tells. -/
def Df.v (d : Df) : List Int × Int × Int := (d.ns, d.tr, d.le)
/-- Defs, cell by cell. -/
def dfC : List Df → List Value
  | [] => []
  | d :: l => .slice d.A d.ns.length d.c :: .int .i64 d.tr :: .int .i64 d.le :: dfC l
theorem dfC_len (l : List Df) : (dfC l).length = l.length * 3 := by
  induction l with
  | nil => rfl
  | cons x l ih => simp only [dfC, List.length_cons, ih]; omega
theorem dfC_app (l m : List Df) : dfC (l ++ m) = dfC l ++ dfC m := by
  induction l with
  | nil => rfl
  | cons x l ih => simp [dfC, ih]
theorem dfC_one (l : List Df) : ∀ u ∈ dfC l, u.oneCell' = true := by
  induction l with
  | nil => intro u hu; cases hu
  | cons x l ih =>
    intro u hu
    simp only [dfC, List.mem_cons] at hu
    rcases hu with rfl | rfl | rfl | hu
    · rfl
    · rfl
    · rfl
    · exact ih u hu
theorem dfC_get (l : List Df) (k : Nat) (h : k < l.length) :
    (dfC l)[k * 3]? = some (.slice l[k].A l[k].ns.length l[k].c) ∧ (dfC l)[k * 3 + 1]? = some (.int .i64 l[k].tr) ∧ (dfC l)[k * 3 + 2]? = some (.int .i64 l[k].le) := by
  induction l generalizing k with
  | nil => simp at h
  | cons x l ih =>
    cases k with
    | zero => exact ⟨rfl, rfl, rfl⟩
    | succ k =>
      have := ih k (by simpa using h)
      rw [show (k + 1) * 3 = k * 3 + 1 + 1 + 1 by omega]
      simpa [dfC] using this
/-- A slice that reads as Defs, each one's needs, too. -/
structure RdDf (w : World) (A : Option Addr) (l : List Df) : Prop where
  rd : Rd w A (dfC l)
  ns : ∀ d ∈ l, Rd w d.A (d.ns.map (Value.int .i64))
theorem RdDf.nil (w : World) (A : Option Addr) : RdDf w A [] := ⟨Rd.nil _ _, fun d hd => by cases hd⟩
theorem RdDf.keep {S : Nat → Prop} {w w' : World} {A : Option Addr} {l : List Df} (h : RdDf w A l) (hc : Chg S w w') (h1 : l ≠ [] → Off S A) (h2 : ∀ d ∈ l, d.ns ≠ [] → Off S d.A) : RdDf w' A l :=
  ⟨h.rd.keep' hc (fun hne => h1 (by rintro rfl; exact hne rfl)), fun d hd => (h.ns d hd).keep' hc (fun hne => h2 d hd (by intro e; rw [e] at hne; exact hne rfl))⟩
theorem RdDf.still {w w' : World} {A : Option Addr} {l : List Df} (h : RdDf w A l) (hc : Chg (fun _ => False) w w') : RdDf w' A l := h.keep hc (fun _ _ _ h => h) (fun _ _ _ _ _ h => h)

/-- Are the needs rising, above one, below the other? -/
def needsB : Int → Int → List Int → Bool
  | _, _, [] => true
  | a, c, n :: l => (decide (a < n) && decide (n < c)) && needsB n c l
def rightDefB (d : List Int × Int × Int) (c : Int) : Bool := needsB (-1) c d.1 && ((decide (1 ≤ d.2.1) && decide (d.2.1 ≤ 5)) && (decide (1 ≤ d.2.2) && decide (d.2.2 ≤ 1048576)))
def rightDefsB (l : List (List Int × Int × Int)) : Bool := l.all (rightDefB · l.length) && (decide (1 ≤ (l.length : Int)) && decide ((l.length : Int) ≤ 8))

set_option maxHeartbeats 1000000 in
set_option maxRecDepth 20000 in
theorem rightDef_any (A : Option Addr) (n c : Nat) (ns : List Int) (tr le cnt : Int) (w : World) (h : Rd w A (ns.map (Value.int .i64))) (hn : ns.length = n) (hn2 : n ≤ 17592186044416) :
    Calls Tryz.prog 88 #[.agg #[.slice A n c, .int .i64 tr, .int .i64 le], .int .i64 cnt] w fun e w' => e = .returned (.bool (rightDefB (ns, tr, le) cnt)) ∧ Chg (fun _ => False) w w' := by
  have hb : rightDefB (ns, tr, le) cnt = (needsB (-1) cnt ns && ((decide (1 ≤ tr) && decide (tr ≤ 5)) && (decide (1 ≤ le) && decide (le ≤ 1048576)))) := rfl
  rw [hb]
  obtain ⟨t1, ht1⟩ : ∃ t1, t1 = (decide (1 ≤ tr) && decide (tr ≤ 5)) := ⟨_, rfl⟩
  obtain ⟨t2, ht2⟩ : ∃ t2, t2 = (decide (1 ≤ le) && decide (le ≤ 1048576)) := ⟨_, rfl⟩
  rw [← ht1, ← ht2]
  have H1 := Lib.hid ht1
  have H2 := Lib.hid ht2
  have HN := Lib.hid hn
  have HR := Lib.hid h
  clear hb ht1 ht2 hn h
  have bE := BoxAt.new w 85 #[.slice A n c, .int .i64 tr, .int .i64 le]
  have hc0 : Chg (fun _ => False) w (w.alloc (.cells #[.slice A n c, .int .i64 tr, .int .i64 le] 85)) := (Chg.refl _ _).alloc _
  go_enter Tryz.func88, Tryz.ntmps88
  go_wp2_with fail
  obtain ⟨w1, hw1⟩ : ∃ w1, w1 = w.alloc (.cells #[.slice A n c, .int .i64 tr, .int .i64 le] 85) := ⟨_, rfl⟩
  rw [← hw1] at bE hc0 ⊢
  have q1 := bE.cell 1 rfl
  have q2 := bE.cell 2 rfl
  clear hw1
  go_loopw [5, 11] (fun v i w' => ∃ (k : Nat) (z : Int), k ≤ n ∧ i = .int .i64 k ∧ v = .int .i64 z ∧ needsB (-1) cnt ns = needsB z cnt (ns.drop k) ∧ w' = w1) (fun _ i _ => n - (intOf i).toNat)
  case atStart => exact ⟨0, -1, by omega, rfl, rfl, rfl, rfl⟩
  case round =>
    obtain ⟨k, z, hk, rfl, rfl, hz, rfl⟩ := hrel
    have HZ := Lib.hid hz
    clear hz
    by_cases hkn : k < n
    · have hkl : k < ns.length := by have := HN.out; omega
      obtain ⟨b, o, rfl, hq⟩ := (HR.out.keep hc0 (fun _ _ h => h)).at_ (k := k) (by rw [List.length_map]; exact hkl)
      rw [List.getElem_map] at hq
      have hdr : ns.drop k = ns[k] :: ns.drop (k + 1) := List.drop_eq_getElem_cons hkl
      obtain ⟨x, hx⟩ : ∃ x, x = ns[k] := ⟨_, rfl⟩
      rw [← hx] at hq hdr
      have hst : needsB (-1) cnt ns = ((decide (z < x) && decide (x < cnt)) && needsB x cnt (ns.drop (k + 1))) := by rw [HZ.out, hdr]; rfl
      have HST := Lib.hid hst
      clear hx hdr hst
      by_cases h1 : z < x
      · by_cases h2 : x < cnt
        · go_wp2_with fail
          go_roundw
          case rel => exact ⟨k + 1, x, by omega, by go_num, rfl, by rw [HST.out]; simp [h1, h2], by first | trivial | rfl⟩
          case measure => simp [intOf]; omega
        · have h3 : cnt ≤ x := by omega
          have hno : needsB (-1) cnt ns = false := by rw [HST.out]; simp [h2]
          have HNO := Lib.hid hno
          clear hno
          go_wp2_with fail
          go_ret
          exact ⟨by rw [HNO.out]; rfl, hc0⟩
      · have h3 : x ≤ z := by omega
        have hno : needsB (-1) cnt ns = false := by rw [HST.out]; simp [h1]
        have HNO := Lib.hid hno
        clear hno
        go_wp2_with fail
        go_ret
        exact ⟨by rw [HNO.out]; rfl, hc0⟩
    · have hyes : needsB (-1) cnt ns = true := by
        rw [HZ.out, List.drop_eq_nil_of_le (by have := HN.out; omega)]
        rfl
      have HY := Lib.hid hyes
      clear hyes
      cases t1
      all_goals
        go_wp2_with (first
          | (go_at_call 55; (with_reducible refine (within_any tr _ _ _).mono ?_); rintro e w' ⟨rfl, rfl⟩; rw [← H1.out])
          | (go_at_call 55; go_must (refine (within_any le _ _ _).mono ?_; rintro e w' ⟨rfl, rfl⟩; rw [← H2.out])))
        go_ret
        exact ⟨by rw [HY.out]; first | rfl | simp, hc0⟩

set_option maxHeartbeats 1000000 in
set_option maxRecDepth 20000 in
theorem rightDefs_any (A : Option Addr) (n c : Nat) (l : List Df) (w : World) (h : RdDf w A l) (hn : l.length = n) (hn2 : n ≤ 17592186044416) (hns : ∀ d ∈ l, d.ns.length ≤ 17592186044416) :
    Calls Tryz.prog 59 #[.slice A n c] w fun e w' => e = .returned (.bool (rightDefsB (l.map Df.v))) ∧ Chg (fun _ => False) w w' := by
  have hb : rightDefsB (l.map Df.v) = ((l.map Df.v).all (rightDefB · n) && (decide (1 ≤ (n : Int)) && decide ((n : Int) ≤ 8))) := by rw [rightDefsB, List.length_map, hn]
  rw [hb]
  have HN := Lib.hid hn
  have HR := Lib.hid h
  have HNS := Lib.hid hns
  clear hb hn h hns
  go_enter Tryz.func59, Tryz.ntmps59
  go_wp2_with fail
  go_loopw [7] (fun i w' => ∃ k : Nat, k ≤ n ∧ i = .int .i64 k ∧ ((l.take k).map Df.v).all (rightDefB · n) = true ∧ Chg (fun _ => False) w w') (fun i _ => n - (intOf i).toNat)
  case atStart => exact ⟨0, by omega, rfl, rfl, Chg.refl _ _⟩
  case round =>
    obtain ⟨k, hk, rfl, ha, hc⟩ := hrel
    have HA := Lib.hid ha
    clear ha
    by_cases hkn : k < n
    · have hkl : k < l.length := by have := HN.out; omega
      have hrk := HR.out.still hc
      obtain ⟨b, o, rfl, _⟩ := hrk.rd.at_ (k := 0) (by rw [dfC_len]; omega)
      obtain ⟨p0, p1, p2⟩ := dfC_get l k hkl
      have r0 := hrk.rd.cells rfl _ _ p0
      have r1 := hrk.rd.cells rfl _ _ p1
      have r2 := hrk.rd.cells rfl _ _ p2
      rw [← Nat.add_assoc] at r1 r2
      have hdn := hrk.ns l[k] (List.getElem_mem _)
      have hdl := HNS.out l[k] (List.getElem_mem _)
      have hsn : ((l.take (k + 1)).map Df.v).all (rightDefB · n) = (((l.take k).map Df.v).all (rightDefB · n) && rightDefB l[k].v n) := by
        rw [List.take_add_one, List.getElem?_eq_getElem hkl, List.map_append, List.all_append]; simp
      have hal : rightDefB l[k].v n = false → (l.map Df.v).all (rightDefB · n) = false := fun hf => by
        rw [List.all_eq_false]
        exact ⟨l[k].v, List.mem_map_of_mem (List.getElem_mem _), by rw [hf]; simp⟩
      have HSN := Lib.hid hsn
      have HAL := Lib.hid hal
      obtain ⟨d, hd⟩ : ∃ d, d = l[k] := ⟨_, rfl⟩
      rw [← hd] at r0 r1 r2 hdn hdl HSN HAL
      clear hsn hal hd p0 p1 p2
      obtain ⟨bb, hbb⟩ : ∃ bb, rightDefB d.v n = bb := ⟨_, rfl⟩
      have HB := Lib.hid hbb
      clear hbb
      have hdn1 := hdn.alloc (.cells #[.slice d.A d.ns.length d.c, .int .i64 d.tr, .int .i64 d.le] 85)
      have hcall := fun w' (hr : Rd w' d.A (d.ns.map (Value.int .i64))) => rightDef_any d.A d.ns.length d.c d.ns d.tr d.le n w' hr rfl hdl
      rw [show ((d.ns, d.tr, d.le) : List Int × Int × Int) = d.v from rfl] at hcall
      cases bb
      · go_wp2_with (go_at_call 88; go_must (refine (hcall _ hdn1).mono ?_; rintro e w2 ⟨rfl, hc2⟩; rw [HB.out]))
        go_ret
        exact ⟨by rw [HAL.out HB.out]; rfl, (hc.alloc _).trans hc2 (fun x hx => hx.elim)⟩
      · go_wp2_with (go_at_call 88; go_must (refine (hcall _ hdn1).mono ?_; rintro e w2 ⟨rfl, hc2⟩; rw [HB.out]))
        go_roundw
        case rel => exact ⟨k + 1, by omega, by go_num, by rw [HSN.out, HA.out, HB.out]; rfl, (hc.alloc _).trans hc2 (fun x hx => hx.elim)⟩
        case measure => simp [intOf]; omega
    · have hall : (l.map Df.v).all (rightDefB · n) = true := by
        have := HA.out
        rwa [List.take_of_length_le (by have := HN.out; omega)] at this
      have HALL := Lib.hid hall
      clear hall
      go_wp2_with (go_at_call 55; go_must (refine (within_any n _ _ _).mono ?_; rintro e w' ⟨rfl, rfl⟩))
      go_ret
      exact ⟨by rw [HALL.out]; rfl, hc⟩
end Go.Proofs.YtngfimjbgopgjaaGreatDoor
