/- Contracts of items.Common. -/
import Derived.Test.YtngfimjbgopgjaaItDef
import Derived.StillTailTactics
namespace Go.Proofs.Ytngfimjbgopgjaa
open Go.RowKit
set_option linter.unusedVariables false

set_option maxHeartbeats 2000000 in
set_option maxRecDepth 20000 in
theorem common_any (A B : Option Addr) (n m c d : Nat) (l l' : List It) (w : World) (ha : RdIt w A l) (hb : RdIt w B l') (hn : l.length = n) (hm : l'.length = m) (hn2 : n ≤ 1048576) (hm2 : m ≤ 1048576) :
    Calls Try.prog 75 #[.slice A n c, .slice B m d] w fun e w' => e = .returned (.agg #[.int .i64 (commonL l l').1, .int .i64 (commonL l l').2]) ∧ Chg (fun _ => False) w w' := by
  subst hn hm
  have HA := Lib.hid ha
  have HB := Lib.hid hb
  clear ha hb
  go_enter Try.func75, Try.ntmps75
  go_wp2_with fail
  all_goals
    have hb4 : BoxIt ((w.alloc (.cells #[.int .i64 0, .int .i64 0] 75)).alloc (.cells #[.int .i64 0, .int .i64 0] 75)) w.heap.size (0, 0) := (BoxIt.new w (0, 0)).keep (S := fun _ => False) ((Chg.refl _ _).alloc _) (fun h => h)
    have hb5 : BoxIt ((w.alloc (.cells #[.int .i64 0, .int .i64 0] 75)).alloc (.cells #[.int .i64 0, .int .i64 0] 75)) (w.heap.size + 1) (0, 0) := by
      have := BoxIt.new (w.alloc (.cells #[.int .i64 0, .int .i64 0] 75)) (0, 0)
      simpa using this
    have hc0 : Chg (fun _ => False) w ((w.alloc (.cells #[.int .i64 0, .int .i64 0] 75)).alloc (.cells #[.int .i64 0, .int .i64 0] 75)) := ((Chg.refl _ _).alloc _).alloc _
    obtain ⟨g, hg⟩ : ∃ g, g = w.heap.size := ⟨_, rfl⟩
    have HG := Lib.hid hg
    rw [← hg] at hb4 hb5
    rw [← hg]
    clear hg
    go_loopw [13] (fun i wr => ∃ k : Nat, k ≤ l.length ∧ k ≤ l'.length ∧ i = .int .i64 k ∧ ∃ out : It, BoxIt wr g (0, 0) ∧ BoxIt wr (g + 1) out ∧ commonL l l' = commonFrom out (l.drop k) (l'.drop k) ∧ Chg (fun _ => False) w wr) (fun i _ => l.length - (intOf i).toNat)
    case atStart => exact ⟨0, by omega, by omega, rfl, (0, 0), hb4, hb5, by simp [commonL], hc0⟩
    case round =>
      clear hb4 hb5 hc0
      obtain ⟨k, hk, hk', rfl, out, hb4, hb5, ht, hc⟩ := hrel
      have HT := Lib.hid ht
      clear ht
      by_cases hkn : k < l.length ∧ k < l'.length
      · obtain ⟨hkl, hkm⟩ := hkn
        obtain ⟨b, o, rfl, _⟩ := HA.out.at_ (k := 0) (by rw [itC_len]; omega)
        obtain ⟨b', o', rfl, _⟩ := HB.out.at_ (k := 0) (by rw [itC_len]; omega)
        have p0 := (HA.out.keep hc (fun _ _ h => h)).cells rfl _ _ (itC_id l k hkl)
        have p1 := (HA.out.keep hc (fun _ _ h => h)).cells rfl _ _ (itC_ver l k hkl)
        have p2 := (HB.out.keep hc (fun _ _ h => h)).cells rfl _ _ (itC_id l' k hkm)
        have p3 := (HB.out.keep hc (fun _ _ h => h)).cells rfl _ _ (itC_ver l' k hkm)
        rw [← Nat.add_assoc] at p1 p3
        have hd1 : Hid (l.drop k = l[k] :: l.drop (k + 1)) := Lib.hid (List.drop_eq_getElem_cons hkl)
        have hd2 : Hid (l'.drop k = l'[k] :: l'.drop (k + 1)) := Lib.hid (List.drop_eq_getElem_cons hkm)
        obtain ⟨x, hx⟩ : ∃ x, x = l[k] := ⟨_, rfl⟩
        obtain ⟨y, hy⟩ : ∃ y, y = l'[k] := ⟨_, rfl⟩
        rw [← hx] at p0 p1 hd1
        rw [← hy] at p2 p3 hd2
        have HX := Lib.hid hx
        have HY := Lib.hid hy
        clear hx hy
        have c0 := hb5.c0
        have c1 := hb5.c1
        have f0 := hb5.fz 0
        have f1 := hb5.fz 1
        have c2 := hb4.c0
        have c3 := hb4.c1
        have f2 := hb4.fz 0
        have f3 := hb4.fz 1
        by_cases hv : x.2 = y.2
        · have hG0 : False ∨ w.heap.size ≤ g := .inr (by rw [HG.out]; exact Nat.le_refl _)
          have hG1 : False ∨ w.heap.size ≤ g + 1 := .inr (by rw [HG.out]; exact Nat.le_succ _)
          have hk2 : ∀ w', Chg (fun _ => False) w w' → w'.cell? ⟨b, o + k * 2, none⟩ = some (.int .i64 x.1) ∧ w'.cell? ⟨b, o + k * 2 + 1, none⟩ = some (.int .i64 x.2) ∧ w'.cell? ⟨b', o' + k * 2, none⟩ = some (.int .i64 y.1) := fun w' hw =>
            ⟨by rw [HX.out]; exact (HA.out.keep hw (fun _ _ h => h)).cells rfl _ _ (itC_id l k hkl), by rw [HX.out, Nat.add_assoc]; exact (HA.out.keep hw (fun _ _ h => h)).cells rfl _ _ (itC_ver l k hkl), by rw [HY.out]; exact (HB.out.keep hw (fun _ _ h => h)).cells rfl _ _ (itC_id l' k hkm)⟩
          clear HX HY
          obtain ⟨i, v⟩ := x
          obtain ⟨i', v'⟩ := y
          simp only at hv p0 p1 p2 p3 hd1 hd2 hk2
          subst hv
          by_cases hi : i = i'
          · subst hi
            have hk3 : ∀ w', Chg (fun _ => False) w w' → w'.cell? ⟨b, o + k * 2, none⟩ = some (.int .i64 i) ∧ w'.cell? ⟨b, o + k * 2 + 1, none⟩ = some (.int .i64 v) ∧ w'.cell? ⟨b', o' + k * 2, none⟩ = some (.int .i64 i) := fun w' hw => hk2 w' hw
            go_wp2_with fail
            go_quiet (fail)
            go_wp2_with fail
            go_region_held3 (fun w' => w'.cell? ⟨b, o + k * 2, none⟩ = some (.int .i64 i) ∧ w'.cell? ⟨b, o + k * 2 + 1, none⟩ = some (.int .i64 v) ∧ w'.cell? ⟨b', o' + k * 2, none⟩ = some (.int .i64 i)) (first | exact ⟨p0, p1, p2⟩ | exact hk3 _ (((hc.drewN _).setCell (p := ⟨g + 1, 0, none⟩) hG1 _).setCell (p := ⟨g + 1, 1, none⟩) hG1 _)) (first | fail)
            have hc2 := ((hc.drewN (nq + 1)).setCell (p := ⟨g + 1, 0, none⟩) hG1 (.int .i64 i)).setCell (p := ⟨g + 1, 1, none⟩) hG1 (.int .i64 v)
            have hb6 : BoxIt (((wr.drewN (nq + 1)).setCell ⟨g + 1, 0, none⟩ (.int .i64 i)).setCell ⟨g + 1, 1, none⟩ (.int .i64 v)) (g + 1) (i, v) := BoxIt.set (w := wr.drewN (nq + 1)) hb5 i v
            have hb7 : BoxIt (((wr.drewN (nq + 1)).setCell ⟨g + 1, 0, none⟩ (.int .i64 i)).setCell ⟨g + 1, 1, none⟩ (.int .i64 v)) g (0, 0) := BoxIt.keep (S := fun x => x = g + 1) hb4 ((((Chg.refl (fun x => x = g + 1) wr).drewN (nq + 1)).setCell (p := ⟨g + 1, 0, none⟩) (.inl (rfl : g + 1 = g + 1)) _).setCell (p := ⟨g + 1, 1, none⟩) (.inl (rfl : g + 1 = g + 1)) _) (by omega)
            obtain ⟨w4, hw4⟩ : ∃ w4, w4 = (((wr.drewN (nq + 1)).setCell ⟨g + 1, 0, none⟩ (.int .i64 i)).setCell ⟨g + 1, 1, none⟩ (.int .i64 v)) := ⟨_, rfl⟩
            rw [← hw4] at hc2 hb6 hb7
            rw [← hw4]
            clear hw4 p0 p1 p2 p3 c0 c1 f0 f1 c2 c3 f2 f3
            obtain ⟨p0, p1, p2⟩ := hk3 w4 hc2
            go_wp2_with fail
            go_quiet (fail)
            go_wp2_with fail
            go_roundw
            case rel => exact ⟨k + 1, by omega, by omega, by go_num, (i, v), hb7, hb6, by rw [HT.out, hd1.out, hd2.out, commonFrom, if_pos rfl, if_pos rfl, Int.min_self], hc2.drewN _⟩
            case measure => simp [intOf]; omega
          · skip
            have hk3 : ∀ w', Chg (fun _ => False) w w' → w'.cell? ⟨b, o + k * 2, none⟩ = some (.int .i64 i) ∧ w'.cell? ⟨b, o + k * 2 + 1, none⟩ = some (.int .i64 v) ∧ w'.cell? ⟨b', o' + k * 2, none⟩ = some (.int .i64 i') := fun w' hw => hk2 w' hw
            go_wp2_with fail
            go_quiet (fail)
            go_wp2_with fail
            go_region_held3 (fun w' => w'.cell? ⟨b, o + k * 2, none⟩ = some (.int .i64 i) ∧ w'.cell? ⟨b, o + k * 2 + 1, none⟩ = some (.int .i64 v) ∧ w'.cell? ⟨b', o' + k * 2, none⟩ = some (.int .i64 i')) (first | exact ⟨p0, p1, p2⟩ | exact hk3 _ (((hc.drewN _).setCell (p := ⟨g + 1, 0, none⟩) hG1 _).setCell (p := ⟨g + 1, 1, none⟩) hG1 _)) (first | fail)
            have hc2 := ((hc.drewN (nq + 1)).setCell (p := ⟨g + 1, 0, none⟩) hG1 (.int .i64 (if i' < i then i' else i))).setCell (p := ⟨g + 1, 1, none⟩) hG1 (.int .i64 v)
            have hb6 : BoxIt (((wr.drewN (nq + 1)).setCell ⟨g + 1, 0, none⟩ (.int .i64 (if i' < i then i' else i))).setCell ⟨g + 1, 1, none⟩ (.int .i64 v)) (g + 1) ((if i' < i then i' else i), v) := BoxIt.set (w := wr.drewN (nq + 1)) hb5 (if i' < i then i' else i) v
            have hb7 : BoxIt (((wr.drewN (nq + 1)).setCell ⟨g + 1, 0, none⟩ (.int .i64 (if i' < i then i' else i))).setCell ⟨g + 1, 1, none⟩ (.int .i64 v)) g (0, 0) := BoxIt.keep (S := fun x => x = g + 1) hb4 ((((Chg.refl (fun x => x = g + 1) wr).drewN (nq + 1)).setCell (p := ⟨g + 1, 0, none⟩) (.inl (rfl : g + 1 = g + 1)) _).setCell (p := ⟨g + 1, 1, none⟩) (.inl (rfl : g + 1 = g + 1)) _) (by omega)
            obtain ⟨m, hm⟩ : ∃ m, m = (if i' < i then i' else i) := ⟨_, rfl⟩
            have HM := Lib.hid hm
            rw [← hm] at hc2 hb6 hb7
            rw [← hm]
            clear hm
            obtain ⟨w4, hw4⟩ : ∃ w4, w4 = (((wr.drewN (nq + 1)).setCell ⟨g + 1, 0, none⟩ (.int .i64 m)).setCell ⟨g + 1, 1, none⟩ (.int .i64 v)) := ⟨_, rfl⟩
            rw [← hw4] at hc2 hb6 hb7
            rw [← hw4]
            clear hw4 p0 p1 p2 p3 c0 c1 f0 f1 c2 c3 f2 f3
            obtain ⟨p0, p1, p2⟩ := hk3 w4 hc2
            have c0 := hb6.c0
            have c1 := hb6.c1
            have c2 := hb7.c0
            have c3 := hb7.c1
            have f2 := hb7.fz 0
            have f3 := hb7.fz 1
            have hi1 : decide (i = i') = false := by simpa using hi
            go_wp2_with fail
            go_quiet (fail)
            go_wp2_with fail
            (try simp only [Exit.inBlock, Exit.then])
            refine bodyPost_ret (results_cell_row rfl _ _ g _ _ _ _ rfl (BoxIt.set (w := w4.drewN nq) hb7 m v) Try.underlying75 rfl itemSize) rfl ?_
            exact ⟨by rw [HT.out, hd1.out, hd2.out, commonFrom, if_pos rfl, if_neg hi, show min i i' = m by rw [HM.out]; split <;> omega], ((hc2.drewN nq).setCell (p := ⟨g, 0, none⟩) hG0 _).setCell (p := ⟨g, 1, none⟩) hG0 _⟩
        · have hv1 : decide (x.2 = y.2) = false := by simpa using hv
          go_wp2_with fail
          go_quiet (fail)
          go_wp2_with fail
          (try simp only [Exit.inBlock, Exit.then])
          refine bodyPost_ret (results_cell_row rfl _ _ g _ _ _ _ rfl (BoxIt.set (w := wr.drewN nq) hb4 out.1 out.2) Try.underlying75 rfl itemSize) rfl ?_
          exact ⟨by rw [HT.out, hd1.out, hd2.out, commonFrom, if_neg hv], ((hc.drewN nq).setCell (p := ⟨g, 0, none⟩) (.inr (by rw [HG.out]; exact Nat.le_refl _)) _).setCell (p := ⟨g, 1, none⟩) (.inr (by rw [HG.out]; exact Nat.le_refl _)) _⟩
      · have hend : Hid (commonFrom out (l.drop k) (l'.drop k) = out) := Lib.hid (by
          rcases Nat.lt_or_ge k l.length with h | h
          · rw [(List.drop_eq_nil_iff (l := l') (i := k)).2 (by omega), commonFrom_nil_right]
          · rw [(List.drop_eq_nil_iff (l := l) (i := k)).2 h, commonFrom_nil_left])
        have n1 : ¬ (k < l.length) ∨ ¬ (k < l'.length) := by omega
        have c0 := hb5.c0
        have c1 := hb5.c1
        have c2 := hb4.c0
        have c3 := hb4.c1
        have f2 := hb4.fz 0
        have f3 := hb4.fz 1
        rcases n1 with n1 | n1
        all_goals
          go_wp2_with fail
          all_goals
           (try simp only [Exit.inBlock, Exit.then])
           refine bodyPost_ret (results_cell_row rfl _ _ g _ _ _ _ rfl (BoxIt.set hb4 out.1 out.2) Try.underlying75 rfl itemSize) rfl ?_
           exact ⟨by rw [HT.out, hend.out], (hc.setCell (p := ⟨g, 0, none⟩) (.inr (by rw [HG.out]; exact Nat.le_refl _)) _).setCell (p := ⟨g, 1, none⟩) (.inr (by rw [HG.out]; exact Nat.le_refl _)) _⟩
end Go.Proofs.Ytngfimjbgopgjaa
