/- Contracts of cutoverref8.Last, cmp.Compare, cmp.Or, items.Compare, cutoverref8.Compare, Versions, Common. -/
import Derived.Test.YtngfimjbgopgjaaItV
import Derived.Test.YtngfimjbgopgjaaItList
import Derived.Test.YtngfimjbgopgjaaEv
namespace Go.Proofs.Ytngfimjbgopgjaa
open Go.RowKit
set_option linter.unusedVariables false

set_option maxHeartbeats 2000000 in
set_option maxRecDepth 20000 in
theorem refLast_any (A : Option Addr) (n c : Nat) (l : List It) (w : World) (h : RdIt w A l) (hn : l.length = n) (hn2 : n ≤ 1048576) :
    Calls Try.prog 114 #[.slice A n c] w fun e w' => e = .returned (.agg #[.int .i64 (lastL l).1, .int .i64 (lastL l).2]) ∧ Chg (fun _ => False) w w' := by
  subst hn
  rcases List.eq_nil_or_concat l with rfl | ⟨l, y, rfl⟩
  · go_enter Try.func114, Try.ntmps114
    go_wp2_with fail
    (try simp only [Exit.inBlock, Exit.then])
    refine bodyPost_ret (results_cell_row rfl _ _ w.heap.size _ #[.int .i64 0, .int .i64 0] (0, 0) _ rfl (heap_alloc_new w _) Try.underlying75 rfl itemSize) rfl ?_
    exact ⟨rfl, (Chg.refl _ _).alloc _⟩
  · rw [List.concat_eq_append] at *
    have hl : Hid (lastL (l ++ [y]) = y) := Lib.hid (by simp [lastL])
    obtain ⟨b, o, rfl, _⟩ := Rd.at_ h (k := 0) (by rw [itC_len]; simp)
    obtain ⟨p0, p1⟩ := it_cells (show RdIt (w.alloc (.cells #[.int .i64 0, .int .i64 0] 75)) _ _ from Rd.alloc h _) l.length (by simp)
    simp only [List.getElem_append_right (Nat.le_refl _), Nat.sub_self, List.getElem_singleton] at p0 p1
    rw [List.length_append, List.length_singleton] at hn2 ⊢
    have n2 : ((l.length : Int) + 1 - 1) = l.length := by omega
    have n3 : (((l.length + 1 : Nat) : Int) == 0) = false := by simp; omega
    go_enter Try.func114, Try.ntmps114
    go_wp2_with fail
    (try simp only [Exit.inBlock, Exit.then])
    refine bodyPost_ret (results_cell_row rfl _ _ w.heap.size _ #[.int .i64 y.1, .int .i64 y.2] (0, 0) _ rfl (heap_alloc_new w _) Try.underlying75 rfl itemSize) rfl ?_
    exact ⟨by rw [hl.out], (Chg.refl _ _).alloc _⟩


theorem isNaN_any (x : Int) (w : World) : Calls Try.prog 123 #[.int .i64 x] w fun e w' => e = .returned (.bool false) ∧ w = w' := by
  go_enter Try.func123, Try.ntmps123
  go_wp2_with fail
  go_ret
  exact ⟨by simp, rfl⟩
theorem cmpI_any (x y : Int) (w : World) : Calls Try.prog 113 #[.int .i64 x, .int .i64 y] w fun e w' => e = .returned (.int .i64 (cmpI x y)) ∧ w = w' := by
  have H : Hid (cmpI x y = if x < y then -1 else if y < x then 1 else 0) := Lib.hid rfl
  rcases Int.lt_trichotomy x y with h | h | h
  all_goals
    go_enter Try.func113, Try.ntmps113
    go_wp2_with (go_at_call 123; refine (isNaN_any _ _).mono ?_; rintro e w' ⟨rfl, rfl⟩)
    go_ret
    refine ⟨?_, rfl⟩
    rw [H.out]
    first | (rw [if_pos h]; rfl) | (rw [if_neg (by omega), if_neg (by omega)]; rfl) | (rw [if_neg (by omega), if_pos h]; rfl)
def orL : List Int → Int
  | [] => 0
  | a :: l => if a ≠ 0 then a else orL l
set_option maxHeartbeats 1000000 in
theorem or_any (A : Option Addr) (n c : Nat) (xs : List Int) (w : World) (h : Rd w A (xs.map (Value.int .i64))) (hn : xs.length = n) (hn2 : n ≤ 1048576) :
    Calls Try.prog 112 #[.slice A n c] w fun e w' => e = .returned (.int .i64 (orL xs)) ∧ Chg (fun _ => False) w w' := by
  subst hn
  have HA := Lib.hid h
  clear h
  go_enter Try.func112, Try.ntmps112
  go_wp2_with fail
  go_loopw [8] (fun i wr => ∃ k : Nat, k ≤ xs.length ∧ i = .int .i64 k ∧ orL xs = orL (xs.drop k) ∧ Chg (fun _ => False) w wr) (fun i _ => xs.length - (intOf i).toNat)
  case atStart => exact ⟨0, by omega, rfl, rfl, Chg.refl _ _⟩
  case round =>
    obtain ⟨k, hk, rfl, ht, hc⟩ := hrel
    have HT := Lib.hid ht
    clear ht
    by_cases hkn : k < xs.length
    · obtain ⟨b, o, rfl, hq⟩ := (HA.out.keep hc (fun _ _ h => h)).at_ (k := k) (by simpa using hkn)
      rw [List.getElem_map] at hq
      have hd : Hid (xs.drop k = xs[k] :: xs.drop (k + 1)) := Lib.hid (List.drop_eq_getElem_cons hkn)
      obtain ⟨x, hx⟩ : ∃ x, x = xs[k] := ⟨_, rfl⟩
      rw [← hx] at hq hd
      clear hx
      by_cases h0 : x = 0
      · have hb : (x != 0) = false := by simpa using h0
        go_wp2_with fail
        go_roundw
        case rel => exact ⟨k + 1, by omega, by go_num, by rw [HT.out, hd.out, orL, if_neg (by omega)], hc⟩
        case measure => simp [intOf]; omega
      · have hb : (x != 0) = true := by simpa using h0
        go_wp2_with fail
        go_ret
        exact ⟨by rw [HT.out, hd.out, orL, if_pos h0]; rfl, hc⟩
    · have hkn' : k = xs.length := by omega
      subst hkn'
      go_wp2_with fail
      go_ret
      exact ⟨by rw [HT.out, List.drop_length]; rfl, hc⟩

theorem cmpL_or (x y : List It) : orL [cmpI (lastL x).2 (lastL y).2, cmpI (lastL x).1 (lastL y).1] = cmpL x y := by
  unfold cmpL
  simp only [orL]
  split
  · rfl
  · split
    · rfl
    · omega

set_option maxHeartbeats 2000000 in
set_option maxRecDepth 20000 in
theorem compare_any (A B : Option Addr) (n m c d : Nat) (l l' : List It) (w : World) (ha : RdIt w A l) (hb : RdIt w B l') (hn : l.length = n) (hm : l'.length = m) (hn2 : n ≤ 1048576) (hm2 : m ≤ 1048576) :
    Calls Try.prog 83 #[.slice A n c, .slice B m d] w fun e w' => e = .returned (.int .i64 (cmpL l l')) ∧ Chg (fun _ => False) w w' := by
  subst hn hm
  have HC := Lib.hid (cmpL_or l l')
  go_enter Try.func83, Try.ntmps83
  go_wp2_with (first
    | (go_at_call 88; (refine (last_any B l'.length d l' _ (hb.keep hc1 (fun _ _ h => h)) rfl hm2).mono ?_; rintro e w2 ⟨rfl, hc2⟩; obtain ⟨y, hy⟩ : ∃ y, y = lastL l' := ⟨_, rfl⟩; rw [← hy]; have HY := Lib.hid hy; clear hy))
    | (go_at_call 88; go_must (refine (last_any A l.length c l w ha rfl hn2).mono ?_; rintro e w1 ⟨rfl, hc1⟩; obtain ⟨x, hx⟩ : ∃ x, x = lastL l := ⟨_, rfl⟩; rw [← hx]; have HX := Lib.hid hx; clear hx)))
  have hcc := hc1.trans hc2 (fun x hx => hx.elim)
  clear hc1 hc2
  have b1 : BoxIt ((w2.alloc (.cells #[.int .i64 x.1, .int .i64 x.2] 75)).alloc (.cells #[.int .i64 y.1, .int .i64 y.2] 75)) w2.heap.size x := (BoxIt.new w2 x).keep (S := fun _ => False) ((Chg.refl _ _).alloc _) (fun h => h)
  have b2 : BoxIt ((w2.alloc (.cells #[.int .i64 x.1, .int .i64 x.2] 75)).alloc (.cells #[.int .i64 y.1, .int .i64 y.2] 75)) (w2.heap.size + 1) y := by
    have := BoxIt.new (w2.alloc (.cells #[.int .i64 x.1, .int .i64 x.2] 75)) y
    simpa using this
  have hc3 := (hcc.alloc (.cells #[.int .i64 x.1, .int .i64 x.2] 75)).alloc (.cells #[.int .i64 y.1, .int .i64 y.2] 75)
  obtain ⟨w3, hw3⟩ : ∃ w3, w3 = ((w2.alloc (.cells #[.int .i64 x.1, .int .i64 x.2] 75)).alloc (.cells #[.int .i64 y.1, .int .i64 y.2] 75)) := ⟨_, rfl⟩
  obtain ⟨g, hg⟩ : ∃ g, g = w2.heap.size := ⟨_, rfl⟩
  rw [← hw3, ← hg] at b1 b2
  rw [← hw3] at hc3
  have HG := Lib.hid hg
  rw [← hw3, ← hg]
  clear hw3 hg
  have hS : ∀ w', Chg (fun _ => False) w3 w' → w'.cell? ⟨g, 0, none⟩ = some (.int .i64 x.1) ∧ w'.cell? ⟨g, 1, none⟩ = some (.int .i64 x.2) ∧ w'.cell? ⟨g + 1, 0, none⟩ = some (.int .i64 y.1) ∧ w'.cell? ⟨g + 1, 1, none⟩ = some (.int .i64 y.2) := fun w' hw =>
    ⟨(b1.keep hw (fun h => h)).c0, (b1.keep hw (fun h => h)).c1, (b2.keep hw (fun h => h)).c0, (b2.keep hw (fun h => h)).c1⟩
  have k0 : Chg (fun _ => False) w3 w3.drew := (Chg.refl _ w3).drew
  have k1 : Chg (fun _ => False) w3 (w3.drew.alloc (.cells #[.int .i64 (cmpI x.2 y.2), .int .i64 (cmpI x.1 y.1)] 3)) := k0.alloc _
  have hrd : Rd (w3.drew.alloc (.cells #[.int .i64 (cmpI x.2 y.2), .int .i64 (cmpI x.1 y.1)] 3)) (some ⟨w3.heap.size, 0, none⟩) ([cmpI x.2 y.2, cmpI x.1 y.1].map (Value.int .i64)) := Rd.newRow w3.drew _ _ _ rfl
  go_region_held3 (fun w' => w'.cell? ⟨g, 0, none⟩ = some (.int .i64 x.1) ∧ w'.cell? ⟨g, 1, none⟩ = some (.int .i64 x.2) ∧ w'.cell? ⟨g + 1, 0, none⟩ = some (.int .i64 y.1) ∧ w'.cell? ⟨g + 1, 1, none⟩ = some (.int .i64 y.2)) (first | exact hS _ k2 | exact hS _ k1 | exact hS _ k0) (first
    | (go_at_call 113; go_must (refine (cmpI_any _ _ _).mono ?_; rintro e w' ⟨rfl, rfl⟩))
    | (go_at_call 112; go_must (refine (or_any (some ⟨w3.heap.size, 0, none⟩) 2 2 [cmpI x.2 y.2, cmpI x.1 y.1] _ hrd rfl (by omega)).mono ?_; rintro e w5 ⟨rfl, hd⟩; have k2 := k1.trans hd (fun x hx => hx.elim))))
  go_wp2_with fail
  go_ret
  exact ⟨by rw [← HC.out, HX.out, HY.out]; rfl, hc3.trans k2 (fun x hx => hx.elim)⟩

theorem cmp_cases (x y : It) : (x.2 < y.2 ∧ (if cmpI x.2 y.2 ≠ 0 then cmpI x.2 y.2 else cmpI x.1 y.1) = -1) ∨ (y.2 < x.2 ∧ (if cmpI x.2 y.2 ≠ 0 then cmpI x.2 y.2 else cmpI x.1 y.1) = 1) ∨
    (x.2 = y.2 ∧ x.1 < y.1 ∧ (if cmpI x.2 y.2 ≠ 0 then cmpI x.2 y.2 else cmpI x.1 y.1) = -1) ∨ (x.2 = y.2 ∧ y.1 < x.1 ∧ (if cmpI x.2 y.2 ≠ 0 then cmpI x.2 y.2 else cmpI x.1 y.1) = 1) ∨ (x.2 = y.2 ∧ (¬ x.1 < y.1 ∧ ¬ y.1 < x.1) ∧ (if cmpI x.2 y.2 ≠ 0 then cmpI x.2 y.2 else cmpI x.1 y.1) = 0) := by
  rcases Int.lt_trichotomy x.2 y.2 with h | h | h
  · have e : cmpI x.2 y.2 = -1 := by unfold cmpI; rw [if_pos h]
    exact .inl ⟨h, by rw [e]; rfl⟩
  · have e : cmpI x.2 y.2 = 0 := by unfold cmpI; rw [if_neg (by omega), if_neg (by omega)]
    rw [e]
    rcases Int.lt_trichotomy x.1 y.1 with k | k | k
    · exact .inr (.inr (.inl ⟨h, k, by simp [cmpI, k]⟩))
    · exact .inr (.inr (.inr (.inr ⟨h, ⟨by omega, by omega⟩, by simp [cmpI, k]⟩)))
    · exact .inr (.inr (.inr (.inl ⟨h, k, by simp [cmpI, k]; omega⟩)))
  · have e : cmpI x.2 y.2 = 1 := by unfold cmpI; rw [if_neg (by omega), if_pos h]
    exact .inr (.inl ⟨h, by rw [e]; rfl⟩)

set_option maxHeartbeats 2000000 in
set_option maxRecDepth 20000 in
theorem refCompare_any (A B : Option Addr) (n m c d : Nat) (l l' : List It) (w : World) (ha : RdIt w A l) (hb : RdIt w B l') (hn : l.length = n) (hm : l'.length = m) (hn2 : n ≤ 1048576) (hm2 : m ≤ 1048576) :
    Calls Try.prog 84 #[.slice A n c, .slice B m d] w fun e w' => e = .returned (.int .i64 (cmpL l l')) ∧ Chg (fun _ => False) w w' := by
  subst hn hm
  obtain ⟨x, hx⟩ : ∃ x, x = lastL l := ⟨_, rfl⟩
  obtain ⟨y, hy⟩ : ∃ y, y = lastL l' := ⟨_, rfl⟩
  have hcm : cmpL l l' = if cmpI x.2 y.2 ≠ 0 then cmpI x.2 y.2 else cmpI x.1 y.1 := by rw [hx, hy]; rfl
  have HX := Lib.hid hx
  have HY := Lib.hid hy
  clear hx hy
  have hcase := cmp_cases x y
  rw [← hcm] at hcase
  rcases hcase with ⟨h1, hr⟩ | ⟨h1, hr⟩ | ⟨h1, h2, hr⟩ | ⟨h1, h2, hr⟩ | ⟨h1, ⟨h2, h3⟩, hr⟩
  all_goals
    have HR := Lib.hid hr
    clear hr
    first | have e1 : (x.2 != y.2) = true := (by simp; omega) | (have e1 : (x.2 != y.2) = false := (by simp; omega); clear h1)
    clear hcm
    go_enter Try.func84, Try.ntmps84
    have hr2 : ∀ w', Chg (fun _ => False) w w' → RdIt (w'.alloc (.cells #[.int .i64 x.1, .int .i64 x.2] 75)) B l' := fun w' h => Rd.alloc (hb.keep h (fun _ _ h => h)) _
    go_wp2_with (first
      | (go_at_call 114; have hq := hr2 _ hc1; go_must (refine (refLast_any B l'.length d l' _ hq rfl hm2).mono ?_; rintro e w2 ⟨rfl, hc2⟩; rw [← HY.out]; have b3 := b1.keep hc2 (fun h => h); have b4 : BoxIt (w2.alloc (.cells #[.int .i64 y.1, .int .i64 y.2] 75)) w1.heap.size x := b3.keep (S := fun _ => False) ((Chg.refl _ _).alloc _) (fun h => h); have b5 := BoxIt.new w2 y; have q0 := b4.c0; have q1 := b4.c1; have q2 := b5.c0; have q3 := b5.c1; clear hq b1 b3 b4 b5 hr2 ha hb))
      | (go_at_call 114; (refine (refLast_any A l.length c l w ha rfl hn2).mono ?_; rintro e w1 ⟨rfl, hc1⟩; rw [← HX.out]; have b1 := BoxIt.new w1 x)))
    go_ret
    exact ⟨by rw [HR.out]; rfl, ((hc1.alloc _).trans hc2 (fun x hx => hx.elim)).alloc _⟩
end Go.Proofs.Ytngfimjbgopgjaa
