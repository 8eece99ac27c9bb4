/- ItemsKnown: the walk of cutoverlaw9.ItemsKnown: it answers true, and turns nothing that was there. -/
import Derived.Test.YtngfimjbgopgjaaItRead
import Derived.Test.YtngfimjbgopgjaaItM
import Derived.Test.YtngfimjbgopgjaaItAdd
import Derived.Test.YtngfimjbgopgjaaItKnown9
namespace Go.Proofs.Ytngfimjbgopgjaa.itemsKnown
open Go.RowKit
set_option linter.unusedVariables false

theorem a1 : grownL exL 6 12 = [(3, 1), (6, 12)] := by kernel_rfl
theorem a2 : grownL exL 6 13 = [(3, 1), (5, 12), (6, 13)] := by kernel_rfl
theorem a3 : grownL [] 1 4 = [(1, 4)] := by kernel_rfl
theorem la : lastL exL = (5, 12) := by kernel_rfl
theorem l0 : lastL [] = (0, 0) := by kernel_rfl
theorem r13 : rightB 13 = true := by kernel_rfl
theorem r12 : rightB 12 = true := by kernel_rfl
theorem r11 : rightB 11 = true := by kernel_rfl
theorem r4 : rightB 4 = true := by kernel_rfl
theorem rn : rightL [] = true := by kernel_rfl

section
variable (w : World) (A : Option Addr) (h : RdIt w A exL)
include h
theorem add1 : Calls Try.prog 86 #[.slice A 2 2, .int .i64 6, .int .i64 12] w fun e w' => ∃ A' c', e = .returned (.tuple #[.slice A' 2 c', .int .i64 0]) ∧ RdIt w' A' [(3, 1), (6, 12)] ∧ Chg (fun _ => False) w w' := by
  refine (add_yes A 2 2 exL 6 12 w h rfl (by omega) exL_right (by rw [la]; decide) (by rw [la]; decide) r12 (by rw [la]; decide) (by omega)).mono ?_
  rintro e w' ⟨A', c', rfl, ho, hc⟩
  rw [a1] at ho ⊢
  exact ⟨A', c', rfl, ho.rd, hc⟩
theorem add2 : Calls Try.prog 86 #[.slice A 2 2, .int .i64 6, .int .i64 13] w fun e w' => ∃ A' c', e = .returned (.tuple #[.slice A' 3 c', .int .i64 0]) ∧ RdIt w' A' [(3, 1), (5, 12), (6, 13)] ∧ Chg (fun _ => False) w w' := by
  refine (add_yes A 2 2 exL 6 13 w h rfl (by omega) exL_right (by rw [la]; decide) (by rw [la]; decide) r13 (by rw [la]; decide) (by omega)).mono ?_
  rintro e w' ⟨A', c', rfl, ho, hc⟩
  rw [a2] at ho ⊢
  exact ⟨A', c', rfl, ho.rd, hc⟩
theorem add3 : Calls Try.prog 86 #[.slice A 2 2, .int .i64 7, .int .i64 13] w fun e w' => e = .returned (.tuple #[.slice none 0 0, .int .i64 1]) ∧ Chg (fun _ => False) w w' :=
  add_no A 2 2 exL 7 13 w h rfl (by omega) exL_right (by rw [la]; decide) (.inl (by rw [la]; decide))
theorem add4 : Calls Try.prog 86 #[.slice A 2 2, .int .i64 6, .int .i64 11] w fun e w' => e = .returned (.tuple #[.slice none 0 0, .int .i64 1]) ∧ Chg (fun _ => False) w w' :=
  add_no A 2 2 exL 6 11 w h rfl (by omega) exL_right (by rw [la]; decide) (.inr (by rw [la]; exact ⟨by decide, r11, by decide⟩))
theorem lay1 : Calls Try.prog 89 #[.slice A 2 2] w fun e w' => ∃ A' c', e = .returned (.tuple #[.slice A' 22 c', .int .i64 0]) ∧ w'.ownsRow w.heap.size 5 1 (.slice A' 22 c') 22 (exB.map (Value.int .u8)) ∧ Chg (fun _ => False) w w' := by
  have := lay_yes A 2 2 exL w h rfl (by omega) exL_right
  rw [exL_lay] at this
  exact this
theorem ver1 : Calls Try.prog 78 #[.slice A 2 2, .int .i64 4] w fun e w' => e = .returned (.int .i64 12) ∧ Chg (fun _ => False) w w' := by
  have := version_any A 2 2 exL 4 w h rfl (by omega)
  rwa [show versionL exL 4 = 12 by kernel_rfl] at this
theorem ver2 : Calls Try.prog 78 #[.slice A 2 2, .int .i64 6] w fun e w' => e = .returned (.int .i64 0) ∧ Chg (fun _ => False) w w' := by
  have := version_any A 2 2 exL 6 w h rfl (by omega)
  rwa [show versionL exL 6 = 0 by kernel_rfl] at this
theorem has1 : Calls Try.prog 76 #[.slice A 2 2, .agg #[.int .i64 3, .int .i64 1]] w fun e w' => e = .returned (.bool true) ∧ Chg (fun _ => False) w w' := by
  have := has_any A 2 2 exL 3 1 w h rfl (by omega)
  rwa [show hasL exL (3, 1) = true by kernel_rfl] at this
theorem has2 : Calls Try.prog 76 #[.slice A 2 2, .agg #[.int .i64 3, .int .i64 12]] w fun e w' => e = .returned (.bool false) ∧ Chg (fun _ => False) w w' := by
  have := has_any A 2 2 exL 3 12 w h rfl (by omega)
  rwa [show hasL exL (3, 12) = false by kernel_rfl] at this
theorem cmp1 (B : Option Addr) (d : Nat) (hB : RdIt w B [(3, 1), (6, 12)]) : Calls Try.prog 83 #[.slice A 2 2, .slice B 2 d] w fun e w' => e = .returned (.int .i64 (-1)) ∧ Chg (fun _ => False) w w' := by
  have := compare_any A B 2 2 2 d exL [(3, 1), (6, 12)] w h hB rfl rfl (by omega) (by omega)
  rwa [show cmpL exL [(3, 1), (6, 12)] = -1 by kernel_rfl] at this
theorem cmp3 : Calls Try.prog 83 #[.slice A 2 2, .slice A 2 2] w fun e w' => e = .returned (.int .i64 0) ∧ Chg (fun _ => False) w w' := by
  have := compare_any A A 2 2 2 2 exL exL w h h rfl rfl (by omega) (by omega)
  rwa [show cmpL exL exL = 0 by kernel_rfl] at this
theorem cut1 : Calls Try.prog 77 #[.slice A 2 2, .int .i64 4] w fun e w' => ∃ A' c', e = .returned (.slice A' 2 c') ∧ Chg (fun _ => False) w w' := by
  refine (cut_any A 2 2 exL 4 w h rfl (by omega)).mono ?_
  rintro e w' ⟨A', c', rfl, _, hc⟩
  exact ⟨A', c', by rw [show (cutL exL 4).length = 2 by kernel_rfl], hc⟩
theorem cut2 : Calls Try.prog 77 #[.slice A 2 2, .int .i64 3] w fun e w' => ∃ A' c', e = .returned (.slice A' 1 c') ∧ Chg (fun _ => False) w w' := by
  refine (cut_any A 2 2 exL 3 w h rfl (by omega)).mono ?_
  rintro e w' ⟨A', c', rfl, _, hc⟩
  exact ⟨A', c', by rw [show (cutL exL 3).length = 1 by kernel_rfl], hc⟩
theorem cut3 : Calls Try.prog 77 #[.slice A 2 2, .int .i64 0] w fun e w' => ∃ A' c', e = .returned (.slice A' 0 c') ∧ Chg (fun _ => False) w w' := by
  refine (cut_any A 2 2 exL 0 w h rfl (by omega)).mono ?_
  rintro e w' ⟨A', c', rfl, _, hc⟩
  exact ⟨A', c', by rw [show (cutL exL 0).length = 0 by kernel_rfl], hc⟩
end
theorem cmp2 (w : World) (A B : Option Addr) (c d : Nat) (hA : RdIt w A [(3, 1), (5, 12), (6, 13)]) (hB : RdIt w B [(3, 1), (6, 12)]) : Calls Try.prog 83 #[.slice A 3 c, .slice B 2 d] w fun e w' => e = .returned (.int .i64 1) ∧ Chg (fun _ => False) w w' := by
  have := compare_any A B 3 2 c d [(3, 1), (5, 12), (6, 13)] [(3, 1), (6, 12)] w hA hB rfl rfl (by omega) (by omega)
  rwa [show cmpL [(3, 1), (5, 12), (6, 13)] [(3, 1), (6, 12)] = 1 by kernel_rfl] at this
theorem add5 (w : World) : Calls Try.prog 86 #[.slice none 0 0, .int .i64 1, .int .i64 4] w fun e w' => ∃ A' c', e = .returned (.tuple #[.slice A' 1 c', .int .i64 0]) ∧ Chg (fun _ => False) w w' := by
  refine (add_yes none 0 0 [] 1 4 w (Rd.nil _ _) rfl (by omega) rn (by rw [l0]; decide) (by rw [l0]; decide) r4 (by rw [l0]; decide) (by omega)).mono ?_
  rintro e w' ⟨A', c', rfl, ho, hc⟩
  rw [a3]
  exact ⟨A', c', rfl, hc⟩
theorem has3 (w : World) : Calls Try.prog 76 #[.slice none 0 0, .agg #[.int .i64 0, .int .i64 0]] w fun e w' => e = .returned (.bool true) ∧ Chg (fun _ => False) w w' := by
  have := has_any none 0 0 [] 0 0 w (Rd.nil _ _) rfl (by omega)
  rwa [show hasL [] (0, 0) = true by kernel_rfl] at this
theorem last3 (w : World) : Calls Try.prog 88 #[.slice none 0 0] w fun e w' => e = .returned (.agg #[.int .i64 0, .int .i64 0]) ∧ Chg (fun _ => False) w w' := by
  have := last_any none 0 0 [] w (Rd.nil _ _) rfl (by omega)
  rwa [l0] at this
theorem read1 (w : World) (B : Option Addr) (d : Nat) (h : Rd w B (exB.map (Value.int .u8))) : Calls Try.prog 90 #[.slice B 22 d] w fun e w' => (∃ A c, e = .returned (.tuple #[.slice A 2 c, .int .i64 0])) ∧ Chg (fun _ => False) w w' := by
  have := read_ex B 22 d [] (.inl rfl) w (by rw [List.append_nil]; exact h) rfl
  simpa using this
theorem read2 (w : World) (B : Option Addr) (d : Nat) (h : Rd w B ((exB ++ [0]).map (Value.int .u8))) : Calls Try.prog 90 #[.slice B 23 d] w fun e w' => (∃ A c, e = .returned (.tuple #[.slice A 0 c, .int .i64 5])) ∧ Chg (fun _ => False) w w' := by
  have := read_ex B 23 d [0] (.inr rfl) w h rfl
  simpa using this

theorem own_base {w : World} {base : Nat} {e : TypeId} {size n : Nat} {v : Value} {xs : List Value} (h : w.ownsRow base e size v (n + 1) xs) : base ≤ w.heap.size := by
  rcases h.2 with ⟨_, h⟩ | ⟨g, cap, cur, _, h1, h2, _⟩
  · omega
  · have := (Array.getElem?_eq_some_iff.1 h2).1
    omega

set_option maxHeartbeats 2000000 in
set_option maxRecDepth 20000 in
theorem walk (w : World) : Calls Try.prog 19 #[] w (SaysTrue w) := by
  obtain ⟨i0, hi, hz0, hz1, hz2⟩ := info_parts byteInfo
  have hl1 : 22 + 1 ≤ maxLen := by decide
  obtain ⟨w0, hw0⟩ : ∃ w0, w0 = w.alloc (.cells #[.int .i64 3, .int .i64 1, .int .i64 5, .int .i64 12] 75) := ⟨_, rfl⟩
  have hX : ∀ w', Chg (fun _ => False) w0 w' → RdIt w' (some ⟨w.heap.size, 0, none⟩) exL := fun w' hw =>
    (show RdIt w0 (some ⟨w.heap.size, 0, none⟩) exL by rw [hw0]; exact Rd.newRow w 75 #[.int .i64 3, .int .i64 1, .int .i64 5, .int .i64 12] (itC exL) rfl).keep hw (fun _ _ h => h)
  have hcw : Chg (fun _ => False) w w0 := by rw [hw0]; exact (Chg.refl _ _).alloc _
  have kk := Chg.refl (fun _ => False) w0
  rw [hw0] at kk
  have HW := Lib.hid hw0
  have k0 : Chg (fun _ => False) w0 (w.alloc (.cells #[.int .i64 3, .int .i64 1, .int .i64 5, .int .i64 12] 75)) := by rw [← hw0]; exact Chg.refl _ _
  clear hw0 kk
  go_enter Try.func19, Try.ntmps19
  go_wp2_with (first
    | (go_at_call 86; (with_reducible refine (add1 _ _ (hX _ k0)).mono ?_); rintro e w1 ⟨A1, c1, rfl, hA1, hd⟩; have k1 := k0.trans hd (fun x hx => hx.elim); clear hd)
    | (go_at_call 86; (with_reducible refine (add2 _ _ (hX _ k1)).mono ?_); rintro e w2 ⟨A2, c2, rfl, hA2, hd⟩; have k2 := k1.trans hd (fun x hx => hx.elim); replace hA1 : RdIt w2 A1 [(3, 1), (6, 12)] := Rd.keep hA1 hd (fun _ _ h => h); clear hd)
    | (go_at_call 86; (with_reducible refine (add3 _ _ (hX _ k2)).mono ?_); rintro e w3 ⟨rfl, hd⟩; have k3 := k2.trans hd (fun x hx => hx.elim); have j3 := hd; clear hd)
    | (go_at_call 86; (with_reducible refine (add4 _ _ (hX _ k3)).mono ?_); rintro e w4 ⟨rfl, hd⟩; have k4 := k3.trans hd (fun x hx => hx.elim); have j4 := j3.trans hd (fun x hx => hx.elim); clear hd)
    | (go_at_call 86; go_must ((with_reducible refine (add5 _).mono ?_); rintro e w5 ⟨A5, c5, rfl, hd⟩; have k5 := k4.trans hd (fun x hx => hx.elim); have j5 := j4.trans hd (fun x hx => hx.elim); clear hd))
    | (go_at_call 89; go_must ((with_reducible refine (lay1 _ _ (hX _ k5)).mono ?_); rintro e w6 ⟨A6, c6, rfl, ho6, hd⟩; have k6 := k5.trans hd (fun x hx => hx.elim); have j6 := j5.trans hd (fun x hx => hx.elim); clear hd))
    | (go_at_call 90; (with_reducible refine (read1 _ _ _ (Rd.of_own ho6)).mono ?_); rintro e w7 ⟨⟨A7, c7, rfl⟩, hd⟩; have k7 := k6.trans hd (fun x hx => hx.elim); have j7 := j6.trans hd (fun x hx => hx.elim); have ho7 : w7.ownsRow w5.heap.size 5 1 (.slice A6 22 c6) 22 (exB.map (Value.int .u8)) := hd.own ho6 (fun _ _ h => h); have hbase : w5.heap.size ≤ (w7.alloc (.cells #[.int .u8 0] 5)).heap.size := (by have h1 := hd.size; have h2 := (own_base ho6); simp; omega); clear hd)
    | (at_builtin; refine wpList_append_rd _ rfl (.tmp 56) (.tmp 57) 34 rfl w5.heap.size 5 i0 _ 1 1 Try.underlying34 hi hz0 hz1 hz2 rfl (by decide) A6 22 c6 (exB.map (Value.int .u8)) rfl (World.ownsRow.alloc ho7 _) (some ⟨w7.heap.size, 0, none⟩) 1 1 ([0].map (Value.int .u8)) rfl rfl (Rd.new1 _ _ _) (u8s_one _) hl1 (by decide) hbase ?_; intro A8 c8 w8 hown8 hg8 hb8; rw [← List.map_append] at hown8; have k8 : Chg (fun _ => False) w0 w8 := (k7.alloc _).trans hg8 (fun x hx => .inr (Nat.le_trans k5.size (own_lt ho7 hx).1)); have j8 : Chg (fun _ => False) w2 w8 := (j7.alloc _).trans hg8 (fun x hx => .inr (Nat.le_trans j5.size (own_lt ho7 hx).1)))
    | (go_at_call 90; go_must ((with_reducible refine (read2 _ _ _ (Rd.of_own hown8)).mono ?_); rintro e w9 ⟨⟨A9, c9, rfl⟩, hd⟩; have k9 := k8.trans hd (fun x hx => hx.elim); have j9 := j8.trans hd (fun x hx => hx.elim); clear hd))
    | (go_at_call 47; go_must (refine (known9_any _).mono ?_; rintro e w10 ⟨rfl, hd⟩; have kk := k9.trans hd (fun x hx => hx.elim); have jj := j9.trans hd (fun x hx => hx.elim); clear hd; have hF1 : ∀ w', Chg (fun _ => False) w2 w' → RdIt w' A1 [(3, 1), (6, 12)] := (fun w' hw => Rd.keep hA1 hw (fun _ _ h => h)); have hF2 : ∀ w', Chg (fun _ => False) w2 w' → RdIt w' A2 [(3, 1), (5, 12), (6, 13)] := (fun w' hw => Rd.keep hA2 hw (fun _ _ h => h)); have hB1 := hF1 _ jj; have hB2 := hF2 _ jj; obtain ⟨b1, o1, rfl, _⟩ := Rd.at_ hB1 (k := 0) (by decide); obtain ⟨b2, o2, rfl, _⟩ := Rd.at_ hB2 (k := 0) (by decide); have v1 : w10.cell? ⟨b1, o1 + 2, none⟩ = some (.int .i64 6) := Rd.cells hB1 rfl 2 _ rfl; have v2 : w10.cell? ⟨b2, o2 + 4, none⟩ = some (.int .i64 6) := Rd.cells hB2 rfl 4 _ rfl; have v3 : w10.cell? ⟨b2, o2 + 5, none⟩ = some (.int .i64 13) := Rd.cells hB2 rfl 5 _ rfl; clear hB1 hB2))
    | (go_at_call 78; (with_reducible refine (ver1 _ _ (hX _ kk)).mono ?_); rintro e w' ⟨rfl, hd⟩; replace kk := kk.trans hd (fun x hx => hx.elim); replace jj := jj.trans hd (fun x hx => hx.elim); clear hd)
    | (go_at_call 78; (with_reducible refine (ver2 _ _ (hX _ kk)).mono ?_); rintro e w' ⟨rfl, hd⟩; replace kk := kk.trans hd (fun x hx => hx.elim); replace jj := jj.trans hd (fun x hx => hx.elim); clear hd)
    | (go_at_call 76; (with_reducible refine (has1 _ _ (hX _ kk)).mono ?_); rintro e w' ⟨rfl, hd⟩; replace kk := kk.trans hd (fun x hx => hx.elim); replace jj := jj.trans hd (fun x hx => hx.elim); clear hd)
    | (go_at_call 76; (with_reducible refine (has2 _ _ (hX _ kk)).mono ?_); rintro e w' ⟨rfl, hd⟩; replace kk := kk.trans hd (fun x hx => hx.elim); replace jj := jj.trans hd (fun x hx => hx.elim); clear hd)
    | (go_at_call 76; (with_reducible refine (has3 _).mono ?_); rintro e w' ⟨rfl, hd⟩; replace kk := kk.trans hd (fun x hx => hx.elim); replace jj := jj.trans hd (fun x hx => hx.elim); clear hd)
    | (go_at_call 83; (with_reducible refine (cmp1 _ _ (hX _ kk) _ _ (hF1 _ jj)).mono ?_); rintro e w' ⟨rfl, hd⟩; replace kk := kk.trans hd (fun x hx => hx.elim); replace jj := jj.trans hd (fun x hx => hx.elim); clear hd)
    | (go_at_call 83; (with_reducible refine (cmp2 _ _ _ _ _ (hF2 _ jj) (hF1 _ jj)).mono ?_); rintro e w' ⟨rfl, hd⟩; replace kk := kk.trans hd (fun x hx => hx.elim); replace jj := jj.trans hd (fun x hx => hx.elim); clear hd)
    | (go_at_call 83; (with_reducible refine (cmp3 _ _ (hX _ kk)).mono ?_); rintro e w' ⟨rfl, hd⟩; replace kk := kk.trans hd (fun x hx => hx.elim); replace jj := jj.trans hd (fun x hx => hx.elim); clear hd)
    | (go_at_call 77; (with_reducible refine (cut1 _ _ (hX _ kk)).mono ?_); rintro e w' ⟨AC, cC, rfl, hd⟩; replace kk := kk.trans hd (fun x hx => hx.elim); replace jj := jj.trans hd (fun x hx => hx.elim); clear hd)
    | (go_at_call 77; (with_reducible refine (cut2 _ _ (hX _ kk)).mono ?_); rintro e w' ⟨AC, cC, rfl, hd⟩; replace kk := kk.trans hd (fun x hx => hx.elim); replace jj := jj.trans hd (fun x hx => hx.elim); clear hd)
    | (go_at_call 77; (with_reducible refine (cut3 _ _ (hX _ kk)).mono ?_); rintro e w' ⟨AC, cC, rfl, hd⟩; replace kk := kk.trans hd (fun x hx => hx.elim); replace jj := jj.trans hd (fun x hx => hx.elim); clear hd)
    | (go_at_call 88; (with_reducible refine (last3 _).mono ?_); rintro e w' ⟨rfl, hd⟩; replace kk := kk.trans hd (fun x hx => hx.elim); replace jj := jj.trans hd (fun x hx => hx.elim); clear hd))
  go_ret
  exact ⟨by simp, hcw.trans kk (fun x hx => hx.elim)⟩
end Go.Proofs.Ytngfimjbgopgjaa.itemsKnown
