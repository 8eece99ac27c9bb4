/- EventKnown: the walk of cutoverlaw10.EventKnown. -/
import Derived.Test.YtngfimjbgopgjaaEvCopy
namespace Go.Proofs.Ytngfimjbgopgjaa.eventKnown
open Go.RowKit
set_option linter.unusedVariables false

/-- The bytes of the event, and their first half. -/
def xB : List Int := [0, 2, 0, 0, 0, 0, 0, 0, 0, 12, 0, 0, 0, 0, 0, 0, 0, 5, 3, 1, 0, 0, 0, 0, 0, 0, 0, 2, 0, 0, 0, 2, 111, 107, 0]
def xH : List Int := [0, 2, 0, 0, 0, 0, 0, 0, 0, 12, 0, 0, 0, 0, 0, 0, 0]
theorem sE : strB { data := #[] } = [] := by decide
theorem xB_lay : evB 2 12 5 3 1 2 { data := #[] } [111, 107] = xB := by simp [evB, xB, be, shortB, sE, IntKind.wrap_u64]
theorem xB_len : xB.length = 35 := rfl
theorem xH_take : xB.take 17 = xH := rfl
theorem xH_byt : ∀ x ∈ xH, 0 ≤ x ∧ x ≤ 255 := by decide
theorem hx1 : numR false xH 2 = (2, false, xH.drop 2) := by kernel_rfl
theorem hx2 : numR false (xH.drop 2) 8 = (12, false, xH.drop 10) := by kernel_rfl
theorem hx3 : numR false (xH.drop 10) 8 = (0, true, []) := by kernel_rfl
theorem hx4 : numR true [] 1 = (0, true, []) := by kernel_rfl
theorem hx6 : numR true [] 8 = (0, true, []) := by kernel_rfl
theorem hx7 : shortR true [] = ([], true, []) := by kernel_rfl
theorem sN : strOfNums [] = { data := #[] } := by decide
theorem ok2 : strOfNums [111, 107] = { data := #[111, 107] } := by decide
theorem right_x (A : Option Addr) (c : Nat) (w : World) : Calls Try.prog 121 #[.agg #[.int .i64 2, .int .i64 12, .int .i64 5, .int .i64 3, .int .i64 1, .int .i64 2, .string { data := #[] }, .slice A 2 c, .slice none 0 0]] w fun e w' => e = .returned (.bool true) ∧ Chg (fun _ => False) w w' :=
  right_3 2 12 5 1 2 A 2 c w (by omega) (by decide) (by omega) (by omega) (by omega)
theorem right_bad (w : World) : Calls Try.prog 121 #[.agg #[.int .i64 1, .int .i64 1, .int .i64 0, .int .i64 3, .int .i64 0, .int .i64 0, .string { data := #[] }, .slice none 0 0, .slice none 0 0]] w fun e w' => e = .returned (.bool false) ∧ Chg (fun _ => False) w w' :=
  right_3 1 1 0 0 0 none 0 0 w (by omega) (by decide) (by omega) (by omega) (by omega)
theorem lay_x (A : Option Addr) (c : Nat) (w : World) (h : Rd w A ([111, 107].map (Value.int .u8))) : Calls Try.prog 97 #[.agg #[.int .i64 2, .int .i64 12, .int .i64 5, .int .i64 3, .int .i64 1, .int .i64 2, .string { data := #[] }, .slice A 2 c, .slice none 0 0]] w fun e w' => ∃ A' c', e = .returned (.tuple #[.slice A' 35 c', .int .i64 0]) ∧ w'.ownsRow w.heap.size 5 1 (.slice A' 35 c') 35 (xB.map (Value.int .u8)) ∧ Chg (fun _ => False) w w' := by
  have h1 := layE_yes 2 12 5 3 1 2 { data := #[] } A 2 c [111, 107] w h rfl (by omega) (by decide) (fun w' => right_x A c w')
  rw [xB_lay] at h1
  exact h1
theorem lay_bad (w : World) : Calls Try.prog 97 #[.agg #[.int .i64 1, .int .i64 1, .int .i64 0, .int .i64 3, .int .i64 0, .int .i64 0, .string { data := #[] }, .slice none 0 0, .slice none 0 0]] w fun e w' => e = .returned (.tuple #[.slice none 0 0, .int .i64 1]) ∧ Chg (fun _ => False) w w' :=
  layE_no _ w _ rfl (fun w' => right_bad w') 1 1 0 3 0 0 { data := #[] } none 0 0 rfl
theorem read_h (B : Option Addr) (d : Nat) (w : World) (h : Rd w B (xH.map (Value.int .u8))) : Calls Try.prog 98 #[.slice B 17 d] w fun e w' => e = .returned (.tuple #[.agg #[.int .i64 0, .int .i64 0, .int .i64 0, .int .i64 0, .int .i64 0, .int .i64 0, .string { data := #[] }, .slice none 0 0, .slice none 0 0], .int .i64 5]) ∧ Chg (fun _ => False) w w' :=
  readE_no B 17 d w h rfl (by omega) xH_byt hx1 hx2 hx3 hx4 hx4 hx6 hx7 hx7 hx4 (fun A' c' w' => by rw [sN]; exact right_0 2 12 0 0 0 { data := #[] } A' 0 c' w')

theorem row1 (W : World) (T : TypeId) (r : Array Value) : ∀ k, k < 1 → ∀ j u, r[j]? = some u → (W.alloc (.cells r T)).cell? ⟨W.heap.size, 0 + k * 9 + j, none⟩ = some u := by
  intro k hk j u hu
  have : k = 0 := by omega
  subst this
  rw [cell_of_row _ _ _ r _ (0, 0) (heap_alloc_new W _)]
  simpa using hu
theorem row2 (W : World) (T : TypeId) (r cs : Array Value) (h : cs.toList = r.toList ++ r.toList) (hr : r.size = 9) : ∀ k, k < 2 → ∀ j u, r[j]? = some u → (W.alloc (.cells cs T)).cell? ⟨W.heap.size, 0 + k * 9 + j, none⟩ = some u := by
  intro k hk j u hu
  have hj : j < 9 := by rw [← hr]; exact (Array.getElem?_eq_some_iff.1 hu).1
  rw [← Array.getElem?_toList] at hu
  rw [cell_of_row _ _ _ cs _ (0, 0) (heap_alloc_new W _), ← Array.getElem?_toList, h]
  rcases (by omega : k = 0 ∨ k = 1) with rfl | rfl
  · rw [List.getElem?_append_left (by rw [Array.length_toList]; omega)]
    simpa using hu
  · rw [List.getElem?_append_right (by rw [Array.length_toList]; omega), Array.length_toList, hr, show 0 + 1 * 9 + j - 9 = j by omega]
    exact hu

set_option maxHeartbeats 4000000 in
set_option maxRecDepth 20000 in
theorem walk (w : World) : Calls Try.prog 21 #[] w (SaysTrue w) := by
  have kc := fun (w : World) (C : Array Value) (n c : Nat) => Lib.run_convert_bytes_const (P := Try.prog) w 34 5 C n c Try.underlying34 Try.underlying5
  obtain ⟨O, hmk⟩ : ∃ O, ∀ w : World, (Instr.makeSlice 47 (.int .i64 201) (.int .i64 201)).run Try.prog w = .ok (.slice (some ⟨w.heap.size, 0, none⟩) 201 201) (w.alloc O) := by
    obtain ⟨i0, hi, hz0, hz1, hz2⟩ := info_parts evInfo
    exact ⟨_, fun w => run_makeSlice w 47 50 i0 _ Try.underlying47 hi hz0 .i64 .i64 201 201 (by omega) (by omega) (by rw [hz1]; decide) (by rw [hz2]; decide) (by omega)⟩
  have hR0 : Rd ((w.alloc (.cells #[.int .u8 111, .int .u8 107] 5 (2, 3))).alloc (.cells #[.int .i64 2, .int .i64 12, .int .i64 5, .int .i64 3, .int .i64 1, .int .i64 2, .string { data := #[] }, .slice (some ⟨w.heap.size, 0, none⟩) 2 2, .slice none 0 0] 50)) (some ⟨w.heap.size, 0, none⟩) ([111, 107].map (Value.int .u8)) :=
    Rd.alloc (.inr ⟨w.heap.size, 0, rfl, fun j u hj => by rw [cell_of_row _ _ _ #[.int .u8 111, .int .u8 107] _ (2, 3) (heap_alloc_new w _)]; simpa using hj⟩) _
  have bx0 := box2 w (.cells #[.int .u8 111, .int .u8 107] 5 (2, 3)) 50 #[.int .i64 2, .int .i64 12, .int .i64 5, .int .i64 3, .int .i64 1, .int .i64 2, .string { data := #[] }, .slice (some ⟨w.heap.size, 0, none⟩) 2 2, .slice none 0 0]
  have hc0 : Chg (fun _ => False) w ((w.alloc (.cells #[.int .u8 111, .int .u8 107] 5 (2, 3))).alloc (.cells #[.int .i64 2, .int .i64 12, .int .i64 5, .int .i64 3, .int .i64 1, .int .i64 2, .string { data := #[] }, .slice (some ⟨w.heap.size, 0, none⟩) 2 2, .slice none 0 0] 50)) := ((Chg.refl _ _).alloc _).alloc _
  have hs0 : ((w.alloc (.cells #[.int .u8 111, .int .u8 107] 5 (2, 3))).alloc (.cells #[.int .i64 2, .int .i64 12, .int .i64 5, .int .i64 3, .int .i64 1, .int .i64 2, .string { data := #[] }, .slice (some ⟨w.heap.size, 0, none⟩) 2 2, .slice none 0 0] 50)).heap.size = w.heap.size + 2 := by simp
  have k10 : closesB 10 = true := by decide
  have k8 : closesB 8 = false := by decide
  have k13 : closesB 13 = false := by decide
  go_enter Try.func21, Try.ntmps21
  go_wp2_with (first
    | (go_at_call 100; (with_reducible refine (line_nil _).mono ?_); rintro e w' ⟨rfl, rfl⟩)
    | (go_at_call 100; (have hrow := row2 w8 50 #[.int .i64 2, .int .i64 12, .int .i64 5, .int .i64 3, .int .i64 1, .int .i64 2, .string { data := #[] }, .slice (some ⟨w.heap.size, 0, none⟩) 2 2, .slice none 0 0] #[.int .i64 2, .int .i64 12, .int .i64 5, .int .i64 3, .int .i64 1, .int .i64 2, .string { data := #[] }, .slice (some ⟨w.heap.size, 0, none⟩) 2 2, .slice none 0 0, .int .i64 2, .int .i64 12, .int .i64 5, .int .i64 3, .int .i64 1, .int .i64 2, .string { data := #[] }, .slice (some ⟨w.heap.size, 0, none⟩) 2 2, .slice none 0 0] rfl rfl); (refine (line_12 w8.heap.size 0 2 (.inr rfl) 2 2 12 5 3 1 2 { data := #[] } (some ⟨w.heap.size, 0, none⟩) 2 2 _ hrow (by omega) (fun w' => right_x _ _ w')).mono ?_); rintro e w9 ⟨rfl, hc9⟩)
    | (go_at_call 100; go_must ((have hrow := row1 wz 50 #[.int .i64 2, .int .i64 12, .int .i64 5, .int .i64 3, .int .i64 1, .int .i64 2, .string { data := #[] }, .slice (some ⟨w.heap.size, 0, none⟩) 2 2, .slice none 0 0]); refine (line_12 wz.heap.size 0 1 (.inl rfl) 1 2 12 5 3 1 2 { data := #[] } (some ⟨w.heap.size, 0, none⟩) 2 2 _ hrow (by omega) (fun w' => right_x _ _ w')).mono ?_; rintro e w8 ⟨rfl, hc8⟩; have bx8 := (bxz.keep (S := fun _ => False) ((Chg.refl _ _).alloc (.cells #[.int .i64 2, .int .i64 12, .int .i64 5, .int .i64 3, .int .i64 1, .int .i64 2, .string { data := #[] }, .slice (some ⟨w.heap.size, 0, none⟩) 2 2, .slice none 0 0] 50)) (fun h => h)).keep hc8 (fun h => h); have y0 := bx8.cell 0 rfl; have y1 := bx8.cell 1 rfl; have y2 := bx8.cell 2 rfl; have y3 := bx8.cell 3 rfl; have y4 := bx8.cell 4 rfl; have y5 := bx8.cell 5 rfl; have y6 := bx8.cell 6 rfl; have y7 := bx8.cell 7 rfl; have y8 := bx8.cell 8 rfl))
    | (go_at_call 94; go_must (refine (closes_any _ _).mono ?_; rintro e w' ⟨rfl, rfl⟩))
    | (go_at_call 99; go_must (refine (layAll_no _ 201 201 _ (by omega)).mono ?_; rintro e w' ⟨rfl, rfl⟩; obtain ⟨wz, hwz⟩ : ∃ wz, wz = (w6.alloc (.cells #[.int .i64 0, .int .i64 0, .int .i64 0, .int .i64 0, .int .i64 0, .int .i64 0, .string { data := #[] }, .slice none 0 0, .slice none 0 0] 50)).alloc O := ⟨_, rfl⟩; rw [← hwz]; have hz6 : Chg (fun _ => False) w6 wz := (by rw [hwz]; exact ((Chg.refl _ _).alloc _).alloc _); clear hwz; have bxz := (bx5.keep hc6 (fun h => h)).keep hz6 (fun h => h); have p0 := bxz.cell 0 rfl; have p1 := bxz.cell 1 rfl; have p2 := bxz.cell 2 rfl; have p3 := bxz.cell 3 rfl; have p4 := bxz.cell 4 rfl; have p5 := bxz.cell 5 rfl; have p6 := bxz.cell 6 rfl; have p7 := bxz.cell 7 rfl; have p8 := bxz.cell 8 rfl; have hRz := (hX5.keep hc6 (fun _ _ h => h)).keep hz6 (fun _ _ h => h); have hcv := run_convert_rd (P := Try.prog) wz 34 9 5 Try.underlying34 Try.underlying5 Try.underlying9 (some ⟨w.heap.size, 0, none⟩) 2 2 [111, 107] rfl hRz; rw [ok2] at hcv))
    | (go_at_call 98; go_must (refine (read_h A4 c4 _ hR5).mono ?_; rintro e w6 ⟨rfl, hc6⟩))
    | (go_at_call 97; (with_reducible refine (lay_bad _).mono ?_); rintro e w5 ⟨rfl, hc5⟩; have bx5 := bx4.keep hc5 (fun h => h); have hX5 := hX4.keep hc5 (fun _ _ h => h); have hR5 : Rd w5 A4 (xH.map (Value.int .u8)) := ((Rd.of_own ho4).keep hc5 (fun _ _ h => h)).take 17)
    | (go_at_call 97; go_must (refine (lay_x (some ⟨w.heap.size, 0, none⟩) 2 _ hX3).mono ?_; rintro e w4 ⟨A4, c4, rfl, ho4, hc4⟩; have bx4 := bx3.keep hc4 (fun h => h); have hX4 := hX3.keep hc4 (fun _ _ h => h); have hcap : 17 ≤ c4 := (by rcases ho4.2 with ⟨_, h0⟩ | ⟨g9, cap9, cur9, hv9, _, _, hl9, _⟩; (cases h0); (injection hv9 with _ _ h9; omega))))
    | (go_at_call 91; go_must (refine (known10_any _).mono ?_; rintro e w2 ⟨rfl, hc2⟩; have v7 := (by1.keep hc2 (fun h => h)).cell 7 rfl; have ho2 := hc2.own (ho1.alloc (.cells #[.int .i64 2, .int .i64 12, .int .i64 5, .int .i64 3, .int .i64 1, .int .i64 2, .string { data := #[] }, .slice (some ⟨g1, 0, none⟩) 2 c1, .slice none 0 0] 50)) (fun _ _ h => h); have u0 : w2.cell? ⟨g1, 0, none⟩ = some (.int .u8 111) := (by rw [ho2.cellAt 0 (by omega)]; rfl); have u1 : w2.frozen? ⟨g1, 0, none⟩ = false := ho2.frozenAt 0; have hst : Chg (fun x => x = g1) w2 (w2.setCell ⟨g1, 0, none⟩ (.int .u8 120)) := (Chg.refl (fun x => x = g1) w2).setCell (p := ⟨g1, 0, none⟩) (.inl rfl) _; have bx3 := (bx1.keep hc2 (fun h => h)).keep hst (by omega); have hX3 := (hX1.keep hc2 (fun _ _ h => h)).keep hst (fun x hx (e : x = g1) => by have e2 := Option.some.inj hx; simp at e2; omega); have q0 := bx3.cell 0 rfl; have q1 := bx3.cell 1 rfl; have q2 := bx3.cell 2 rfl; have q3 := bx3.cell 3 rfl; have q4 := bx3.cell 4 rfl; have q5 := bx3.cell 5 rfl; have q6 := bx3.cell 6 rfl; have q7 := bx3.cell 7 rfl; have q8 := bx3.cell 8 rfl))
    | (go_at_call 96; go_must (refine (copyE_any 2 12 5 3 1 2 { data := #[] } (some ⟨w.heap.size, 0, none⟩) 2 2 [111, 107] _ hR0 rfl (by omega)).mono ?_; rintro e w1 ⟨A1, c1, rfl, ho1, hc1⟩; obtain ⟨g1, rfl⟩ : ∃ g1, A1 = some ⟨g1, 0, none⟩ := (by rcases ho1.2 with ⟨_, h0⟩ | ⟨g9, cap9, cur9, hv9, _⟩; (cases h0); (injection hv9 with h9; exact ⟨g9, h9⟩)); have hg1 : w.heap.size + 2 ≤ g1 := (by rw [← hs0]; exact (own_lt ho1 rfl).1); have by1 := BoxAt.new w1 50 #[.int .i64 2, .int .i64 12, .int .i64 5, .int .i64 3, .int .i64 1, .int .i64 2, .string { data := #[] }, .slice (some ⟨g1, 0, none⟩) 2 c1, .slice none 0 0]; have bx1 := (bx0.keep hc1 (fun h => h)).keep (S := fun _ => False) ((Chg.refl _ _).alloc (.cells #[.int .i64 2, .int .i64 12, .int .i64 5, .int .i64 3, .int .i64 1, .int .i64 2, .string { data := #[] }, .slice (some ⟨g1, 0, none⟩) 2 c1, .slice none 0 0] 50)) (fun h => h); have hX1 := (hR0.keep hc1 (fun _ _ h => h)).alloc (.cells #[.int .i64 2, .int .i64 12, .int .i64 5, .int .i64 3, .int .i64 1, .int .i64 2, .string { data := #[] }, .slice (some ⟨g1, 0, none⟩) 2 c1, .slice none 0 0] 50))))
  go_ret
  have e : ∀ (x : Nat), False → (False ∨ w.heap.size ≤ x) := fun x hx => hx.elim
  have hA2 : Chg (fun _ => False) w w2 := ((hc0.trans hc1 e).alloc _).trans hc2 e
  have hA3 := hA2.trans hst (fun x hx => .inr (by rw [hx]; omega))
  exact ⟨rfl, (((((((hA3.trans hc4 e).trans hc5 e).trans hc6 e).trans hz6 e).alloc _).trans hc8 e).alloc _).trans hc9 e⟩
end Go.Proofs.Ytngfimjbgopgjaa.eventKnown
