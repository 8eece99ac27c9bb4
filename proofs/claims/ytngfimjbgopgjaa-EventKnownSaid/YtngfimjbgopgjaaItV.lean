/- Contracts of items.Last, Version, Has, Cut. -/
import Derived.Test.YtngfimjbgopgjaaItGrow
namespace Go.Proofs.Ytngfimjbgopgjaa
open Go.RowKit
set_option linter.unusedVariables false

/-- The two cells of the item at k. -/
theorem it_cells {w : World} {b o : Nat} {l : List It} (h : RdIt w (some ⟨b, o, none⟩) l) (k : Nat) (hk : k < l.length) : w.cell? ⟨b, o + k * 2, none⟩ = some (.int .i64 l[k].1) ∧ w.cell? ⟨b, o + k * 2 + 1, none⟩ = some (.int .i64 l[k].2) :=
  ⟨h.cells rfl _ _ (itC_id l k hk), by rw [Nat.add_assoc]; exact h.cells rfl _ _ (itC_ver l k hk)⟩

set_option maxHeartbeats 2000000 in
set_option maxRecDepth 20000 in
theorem version_any (A : Option Addr) (n c : Nat) (l : List It) (id : Int) (w : World) (h : RdIt w A l) (hn : l.length = n) (hn2 : n ≤ 1048576) :
    Calls Try.prog 78 #[.slice A n c, .int .i64 id] w fun e w' => e = .returned (.int .i64 (versionL l id)) ∧ Chg (fun _ => False) w w' := by
  subst hn
  have HA := Lib.hid h
  clear h
  by_cases hid : id < 1
  · have HV : Hid (versionL l id = 0) := Lib.hid (if_pos hid)
    go_enter Try.func78, Try.ntmps78
    go_wp2_with fail
    go_ret
    exact ⟨by rw [HV.out]; rfl, Chg.refl _ _⟩
  · have HV : Hid (versionL l id = verFrom id (l.drop 0)) := Lib.hid (if_neg hid)
    go_enter Try.func78, Try.ntmps78
    go_wp2_with fail
    go_loopw [11] (fun i wr => ∃ k : Nat, k ≤ l.length ∧ i = .int .i64 k ∧ verFrom id (l.drop 0) = verFrom id (l.drop k) ∧ Chg (fun _ => False) w wr) (fun i _ => l.length - (intOf i).toNat)
    case atStart => exact ⟨0, by omega, rfl, rfl, Chg.refl _ _⟩
    case round =>
      obtain ⟨k, hk, rfl, ht, hc⟩ := hrel
      have HT := Lib.hid ht
      clear ht
      by_cases hkn : k < l.length
      · obtain ⟨b, o, rfl, _⟩ := HA.out.at_ (k := 0) (by rw [itC_len]; omega)
        obtain ⟨p0, p1⟩ := it_cells (HA.out.keep hc (fun _ _ h => h)) k hkn
        have hd : Hid (l.drop k = l[k] :: l.drop (k + 1)) := Lib.hid (List.drop_eq_getElem_cons hkn)
        obtain ⟨x, hx⟩ : ∃ x, x = l[k] := ⟨_, rfl⟩
        rw [← hx] at p0 p1 hd
        clear hx
        have hbl : b ≠ wr.heap.size := by have := World.block_lt_of_cell? wr _ p0; simp at this; omega
        by_cases hle : id ≤ x.1
        · go_wp2_with fail
          go_ret
          exact ⟨by rw [HV.out, HT.out, hd.out, verFrom, if_pos hle]; rfl, hc.alloc _⟩
        · go_wp2_with fail
          go_roundw
          case rel => exact ⟨k + 1, by omega, by go_num, by rw [HT.out, hd.out, verFrom, if_neg hle], hc.alloc _⟩
          case measure => simp [intOf]; omega
      · have hkn' : k = l.length := by omega
        subst hkn'
        go_wp2_with fail
        go_ret
        exact ⟨by rw [HV.out, HT.out, List.drop_length]; rfl, hc⟩

theorem beq_dec (a b : Int) : (a == b) = decide (a = b) := by rw [Bool.eq_iff_iff]; simp

set_option maxHeartbeats 2000000 in
set_option maxRecDepth 20000 in
theorem has_any (A : Option Addr) (n c : Nat) (l : List It) (i v : Int) (w : World) (h : RdIt w A l) (hn : l.length = n) (hn2 : n ≤ 1048576) :
    Calls Try.prog 76 #[.slice A n c, .agg #[.int .i64 i, .int .i64 v]] w fun e w' => e = .returned (.bool (hasL l (i, v))) ∧ Chg (fun _ => False) w w' := by
  have hr : RdIt (w.alloc (.cells #[.int .i64 i, .int .i64 v] 75)) A l := Rd.alloc h _
  by_cases hi : i = 0
  · subst hi
    have HV : Hid (hasL l (0, v) = decide (v = 0)) := Lib.hid rfl
    go_enter Try.func76, Try.ntmps76
    go_wp2_with fail
    go_ret
    exact ⟨by rw [HV.out]; simp [beq_dec], (Chg.refl _ _).alloc _⟩
  · have HV : Hid (hasL l (i, v) = (!decide (versionL l i = 0) && decide (versionL l i = v))) := Lib.hid (if_neg hi)
    have hi1 : (i == 0) = false := by simpa using hi
    go_enter Try.func76, Try.ntmps76
    go_wp2_with (go_at_call 78; go_must (refine (version_any A n c l i _ hr hn hn2).mono ?_; rintro e w1 ⟨rfl, hc1⟩; have hb1 : w1.cell? ⟨w.heap.size, 1, none⟩ = some (.int .i64 v) := hc1.cell_some (p := ⟨w.heap.size, 1, none⟩) (cell_of_row _ _ 1 #[_, _] _ (0, 0) (heap_alloc_new w _)) (fun h => h); generalize versionL l i = u at *))
    all_goals
      go_ret
      refine ⟨?_, ((Chg.refl _ _).alloc _).trans hc1 (fun x hx => hx.elim)⟩
      rw [HV.out]
      simp_all [beq_dec, bne]

set_option maxHeartbeats 2000000 in
set_option maxRecDepth 20000 in
theorem last_any (A : Option Addr) (n c : Nat) (l : List It) (w : World) (h : RdIt w A l) (hn : l.length = n) (hn2 : n ≤ 1048576) :
    Calls Try.prog 88 #[.slice A n c] w fun e w' => e = .returned (.agg #[.int .i64 (lastL l).1, .int .i64 (lastL l).2]) ∧ Chg (fun _ => False) w w' := by
  subst hn
  rcases List.eq_nil_or_concat l with rfl | ⟨l, y, rfl⟩
  · go_enter Try.func88, Try.ntmps88
    go_wp2_with fail
    (try simp only [Exit.inBlock, Exit.then])
    refine bodyPost_ret (results_cell_row rfl _ _ w.heap.size _ #[.int .i64 0, .int .i64 0] (0, 0) _ rfl (heap_alloc_new w _) Try.underlying75 rfl itemSize) rfl ?_
    exact ⟨rfl, (Chg.refl _ _).alloc _⟩
  · rw [List.concat_eq_append] at *
    have hl : Hid (lastL (l ++ [y]) = y) := Lib.hid (by simp [lastL])
    obtain ⟨b, o, rfl, _⟩ := Rd.at_ h (k := 0) (by rw [itC_len]; simp)
    obtain ⟨p0, p1⟩ := it_cells (show RdIt (w.alloc (.cells #[.int .i64 0, .int .i64 0] 75)) _ _ from Rd.alloc h _) l.length (by simp)
    simp only [List.getElem_append_right (Nat.le_refl _), Nat.sub_self, List.getElem_singleton] at p0 p1
    rw [List.length_append, List.length_singleton] at hn2 ⊢
    have n2 : ((l.length : Int) + 1 - 1) = l.length := by omega
    have n3 : (((l.length + 1 : Nat) : Int) == 0) = false := by simp; omega
    go_enter Try.func88, Try.ntmps88
    go_wp2_with fail
    (try simp only [Exit.inBlock, Exit.then])
    refine bodyPost_ret (results_cell_row rfl _ _ w.heap.size _ #[.int .i64 y.1, .int .i64 y.2] (0, 0) _ rfl (heap_alloc_new w _) Try.underlying75 rfl itemSize) rfl ?_
    exact ⟨by rw [hl.out], (Chg.refl _ _).alloc _⟩

set_option maxHeartbeats 2000000 in
set_option maxRecDepth 20000 in
theorem cut_any (A : Option Addr) (n c : Nat) (l : List It) (id : Int) (w : World) (h : RdIt w A l) (hn : l.length = n) (hn2 : n ≤ 1048575) :
    Calls Try.prog 77 #[.slice A n c, .int .i64 id] w (GivesIt w (cutL l id)) := by
  subst hn
  obtain ⟨i0, hi, hz0, hz1, hz2⟩ := info_parts itemInfo
  have HA := Lib.hid h
  clear h
  go_enter Try.func77, Try.ntmps77
  go_wp2_with fail
  go_loopw [5, 11] (fun a i wr => ∃ k : Nat, k ≤ l.length ∧ i = .int .i64 k ∧ ∃ (L : List It) (A : Option Addr) (c : Nat), a = .slice A L.length c ∧ L.length ≤ k ∧ cutL l id = L ++ cutGo id (lastL L).1 (l.drop k) ∧ OwnIt wr w.heap.size A c L ∧ Chg (fun _ => False) w wr) (fun _ i _ => l.length - (intOf i).toNat)
  case atStart => exact ⟨0, by omega, rfl, [], none, 0, rfl, by simp, rfl, World.ownsRow_nil _ _ _ _, Chg.refl _ _⟩
  case round =>
    obtain ⟨k, hk, rfl, L, A5, c5, rfl, hlen, ht, ho, hc⟩ := hrel
    have HT := Lib.hid ht
    clear ht
    by_cases hkn : k < l.length
    · obtain ⟨b, o, rfl, _⟩ := HA.out.at_ (k := 0) (by rw [itC_len]; omega)
      obtain ⟨p0, p1⟩ := it_cells (HA.out.keep hc (fun _ _ h => h)) k hkn
      have hd : Hid (l.drop k = l[k] :: l.drop (k + 1)) := Lib.hid (List.drop_eq_getElem_cons hkn)
      obtain ⟨x, hx⟩ : ∃ x, x = l[k] := ⟨_, rfl⟩
      rw [← hx] at p0 p1 hd
      clear hx
      have hbl : b ≠ wr.heap.size := by have := World.block_lt_of_cell? wr _ p0; simp at this; omega
      have ho3 : OwnIt (wr.alloc (.cells #[.int .i64 x.1, .int .i64 x.2] 75)) w.heap.size A5 c5 L := World.ownsRow.alloc ho _
      have q0 : (wr.alloc (.cells #[.int .i64 x.1, .int .i64 x.2] 75)).cell? ⟨wr.heap.size, 0, none⟩ = some (.int .i64 x.1) := cell_of_row _ _ 0 #[_, _] _ (0, 0) (heap_alloc_new wr _)
      have q1 : (wr.alloc (.cells #[.int .i64 x.1, .int .i64 x.2] 75)).cell? ⟨wr.heap.size, 1, none⟩ = some (.int .i64 x.2) := cell_of_row _ _ 1 #[_, _] _ (0, 0) (heap_alloc_new wr _)
      have hLn : L.length ≤ 1048576 := by omega
      have hl1 : L.length + 1 ≤ maxLen := by simp only [maxLen]; omega
      have hl2 : (L.length + 1) * 16 ≤ 140737488355328 := by omega
      have hc3 : Chg (fun _ => False) w (wr.alloc (.cells #[.int .i64 x.1, .int .i64 x.2] 75)) := hc.alloc _
      by_cases hlt : (lastL L).1 < id
      · have hstep : Hid (cutL l id = (L ++ [(min x.1 id, x.2)]) ++ cutGo id (min x.1 id) (l.drop (k + 1))) := Lib.hid (by rw [HT.out, hd.out, cutGo, if_pos hlt, List.append_assoc]; rfl)
        have hlast2 : Hid ((lastL (L ++ [(min x.1 id, x.2)])).1 = min x.1 id) := Lib.hid (by simp [lastL])
        have hmin : Hid (min x.1 id = if id < x.1 then id else x.1) := Lib.hid (by split <;> omega)
        go_wp2_with (go_at_call 88; go_must (refine (last_any A5 L.length c5 L _ ho3.rd rfl hLn).mono ?_; rintro e w2 ⟨rfl, hc2⟩; replace q0 := hc2.cell_some q0 (fun h => h); replace q1 := hc2.cell_some q1 (fun h => h); have ho4 : OwnIt w2 w.heap.size A5 c5 L := hc2.own ho3 (fun _ _ h => h); have hbase : w.heap.size ≤ (w2.alloc (.cells #[.int .i64 (if id < x.1 then id else x.1), .int .i64 x.2] 75)).heap.size := (by have := hc3.size; have := hc2.size; simp; omega)))
        rename_i K2 aK
        refine aK _ _ ?_
        simp only [List.getElem_toArray, List.getElem_cons_zero]
        go_wp2_with (at_builtin; refine wpList_append_rd _ rfl (.tmp 21) (.tmp 29) 52 rfl w.heap.size 75 i0 _ 2 16 Try.underlying52 hi hz0 hz1 hz2 rfl (by decide) A5 L.length c5 (itC L) rfl (World.ownsRow.alloc ho4 _) (some ⟨w2.heap.size, 0, none⟩) 1 1 (itC [(if id < x.1 then id else x.1, x.2)]) rfl rfl (Rd.newRow w2 _ _ _ rfl) (itC_one _) hl1 hl2 hbase ?_; intro A2 c2 w3 hown2 hg2 hb2)
        go_roundw
        case rel => exact ⟨k + 1, by omega, by go_num, L ++ [(min x.1 id, x.2)], A2, c2, by simp, by simp; omega, by rw [hlast2.out]; exact hstep.out, by unfold OwnIt; rw [itC_app, List.length_append, hmin.out]; exact hown2, (((hc3.trans hc2 (fun x hx => hx.elim)).alloc _).trans hg2 (fun x hx => .inr (own_lt ho hx).1))⟩
        case measure => simp [intOf]; omega
      · have hstep : Hid (cutL l id = L ++ cutGo id (lastL L).1 (l.drop (k + 1))) := Lib.hid (by rw [HT.out, hd.out, cutGo, if_neg hlt])
        go_wp2_with (go_at_call 88; go_must (refine (last_any A5 L.length c5 L _ ho3.rd rfl hLn).mono ?_; rintro e w2 ⟨rfl, hc2⟩))
        rename_i K2 aK
        refine aK _ _ ?_
        simp only [List.getElem_toArray, List.getElem_cons_zero]
        go_wp2_with fail
        go_roundw
        case rel => exact ⟨k + 1, by omega, by go_num, L, A5, c5, rfl, by omega, hstep.out, hc2.own ho3 (fun _ _ h => h), hc3.trans hc2 (fun x hx => hx.elim)⟩
        case measure => simp [intOf]; omega
    · have hkn' : k = l.length := by omega
      subst hkn'
      go_wp2_with fail
      go_ret
      exact ⟨A5, c5, by rw [HT.out, List.drop_length]; simp [cutGo], by rw [HT.out, List.drop_length]; simpa [cutGo] using ho, hc⟩
end Go.Proofs.Ytngfimjbgopgjaa
