/- Contracts of event.Same at two events without Defs that are the same, of cutoverlaw10.known. -/
import Derived.Test.YtngfimjbgopgjaaGreatDoorEvRead
namespace Go.Proofs.YtngfimjbgopgjaaGreatDoor
open Go.RowKit
set_option linter.unusedVariables false

theorem equalDefs_nil (v : Value) (w : World) : Calls Tryz.prog 67 #[.slice none 0 0, .slice none 0 0, v] w fun e w' => e = .returned (.bool true) ∧ w = w' := by
  go_enter Tryz.func67, Tryz.ntmps67
  go_wp2_with fail
  go_loopw [17] (fun i w' => i = .int .i64 0 ∧ w' = w) (fun _ _ => 0)
  case atStart => exact ⟨rfl, rfl⟩
  case round =>
    obtain ⟨rfl, rfl⟩ := hrel
    go_wp2_with fail
    go_ret
    exact ⟨rfl, rfl⟩

set_option maxHeartbeats 1000000 in
set_option maxRecDepth 20000 in
theorem sameE_yes (id ver tm ty node m : Int) (nm : ByteArray) (A B : Option Addr) (n c n' d : Nat) (bs : List Int) (w : World) (hA : Rd w A (bs.map (Value.int .u8))) (hB : Rd w B (bs.map (Value.int .u8))) (hn : bs.length = n) (hn' : bs.length = n') (hn2 : n ≤ 1000) :
    Calls Tryz.prog 32 #[.agg #[.int .i64 id, .int .i64 ver, .int .i64 tm, .int .i64 ty, .int .i64 node, .int .i64 m, .string nm, .slice A n c, .slice none 0 0], .agg #[.int .i64 id, .int .i64 ver, .int .i64 tm, .int .i64 ty, .int .i64 node, .int .i64 m, .string nm, .slice B n' d, .slice none 0 0]] w fun e w' => e = .returned (.bool true) ∧ Chg (fun _ => False) w w' := by
  have HN := Lib.hid hn
  have HN' := Lib.hid hn'
  have hn3 : n' ≤ 1000 := by omega
  clear hn hn'
  have bP := two_P w 32 32 #[.int .i64 id, .int .i64 ver, .int .i64 tm, .int .i64 ty, .int .i64 node, .int .i64 m, .string nm, .slice A n c, .slice none 0 0] #[.int .i64 id, .int .i64 ver, .int .i64 tm, .int .i64 ty, .int .i64 node, .int .i64 m, .string nm, .slice B n' d, .slice none 0 0]
  have bE := two_E w 32 32 #[.int .i64 id, .int .i64 ver, .int .i64 tm, .int .i64 ty, .int .i64 node, .int .i64 m, .string nm, .slice A n c, .slice none 0 0] #[.int .i64 id, .int .i64 ver, .int .i64 tm, .int .i64 ty, .int .i64 node, .int .i64 m, .string nm, .slice B n' d, .slice none 0 0]
  go_enter Tryz.func32, Tryz.ntmps32
  go_wp2_with (first
    | (go_at_call 37; go_must (refine (equalB_any A B n n' c d bs bs _ ((hA.alloc _).alloc _) ((hB.alloc _).alloc _) HN.out HN'.out (by omega) (by omega)).mono ?_; rintro e w2 ⟨rfl, hc2⟩; rw [decide_eq_true rfl]; have q8 := (bP.keep hc2 (fun h => h)).cell 8 rfl; have r8 := (bE.keep hc2 (fun h => h)).cell 8 rfl))
    | (go_at_call 67; go_must (refine (equalDefs_nil _ _).mono ?_; rintro e w' ⟨rfl, rfl⟩)))
  go_ret
  exact ⟨rfl, (((Chg.refl _ _).alloc _).alloc _).trans hc2 (fun x hx => hx.elim)⟩

/-- The event of known, and its bytes. -/
def kB : List Int := [0, 1, 0, 0, 0, 0, 0, 0, 0, 1, 0, 0, 0, 0, 0, 0, 0, 0, 7, 0, 0, 0, 0, 0, 0, 0, 0, 0, 0, 1, 97, 0, 1, 98, 0]
theorem ka : strOfNums [97] = { data := #[97] } := by decide
theorem sa : strB { data := #[97] } = [97] := by decide
theorem kB_lay : evB 1 1 0 7 0 0 (strOfNums [97]) [98] = kB := by rw [ka]; simp [evB, kB, be, shortB, sa, IntKind.wrap_u64]
theorem kB_byt : ∀ x ∈ kB, 0 ≤ x ∧ x ≤ 255 := by decide
theorem kx1 : numR false kB 2 = (1, false, kB.drop 2) := by kernel_rfl
theorem kx2 : numR false (kB.drop 2) 8 = (1, false, kB.drop 10) := by kernel_rfl
theorem kx3 : numR false (kB.drop 10) 8 = (0, false, kB.drop 18) := by kernel_rfl
theorem kx4 : numR false (kB.drop 18) 1 = (7, false, kB.drop 19) := by kernel_rfl
theorem kx5 : numR false (kB.drop 19) 1 = (0, false, kB.drop 20) := by kernel_rfl
theorem kx6 : numR false (kB.drop 20) 8 = (0, false, kB.drop 28) := by kernel_rfl
theorem kx7 : shortR false (kB.drop 28) = ([97], false, kB.drop 31) := by kernel_rfl
theorem kx8 : shortR false (kB.drop 31) = ([98], false, kB.drop 34) := by kernel_rfl
theorem kx9 : numR false (kB.drop 34) 1 = (0, false, []) := by kernel_rfl
theorem name_a : isNameB { data := #[97] } = true := by decide
theorem name_a1 : isNameB { data := #[97, 45, 49] } = true := by decide
theorem name_A : isNameB { data := #[65] } = false := by decide
theorem name_0 : isNameB { data := #[] } = false := by decide

/-- Right of known's event, and of what is read of its bytes. -/
theorem right_k (A : Option Addr) (c : Nat) (w : World) : Calls Tryz.prog 28 #[.agg #[.int .i64 1, .int .i64 1, .int .i64 0, .int .i64 7, .int .i64 0, .int .i64 0, .string { data := #[97] }, .slice A 1 c, .slice none 0 0]] w fun e w' => e = .returned (.bool true) ∧ Chg (fun _ => False) w w' :=
  right_7 1 1 0 { data := #[97] } A 1 c w (by omega) (by decide) (by omega) name_a (by omega)
theorem lay_k (A : Option Addr) (c : Nat) (w : World) (h : Rd w A ([98].map (Value.int .u8))) : Calls Tryz.prog 22 #[.agg #[.int .i64 1, .int .i64 1, .int .i64 0, .int .i64 7, .int .i64 0, .int .i64 0, .string { data := #[97] }, .slice A 1 c, .slice none 0 0]] w fun e w' => ∃ A' c', e = .returned (.tuple #[.slice A' 35 c', .int .i64 0]) ∧ w'.ownsRow w.heap.size 5 1 (.slice A' 35 c') 35 (kB.map (Value.int .u8)) ∧ Chg (fun _ => False) w w' := by
  have h1 := layE_yes 1 1 0 7 0 0 (strOfNums [97]) A 1 c [98] w h rfl (by omega) (by rw [ka]; decide) (fun w' => by rw [ka]; exact right_k A c w')
  rw [kB_lay, ka] at h1
  exact h1
theorem read_k (B : Option Addr) (d : Nat) (w : World) (h : Rd w B (kB.map (Value.int .u8))) : Calls Tryz.prog 30 #[.slice B 35 d] w fun e w' => ∃ A' c', e = .returned (.tuple #[.agg #[.int .i64 1, .int .i64 1, .int .i64 0, .int .i64 7, .int .i64 0, .int .i64 0, .string { data := #[97] }, .slice A' 1 c', .slice none 0 0], .int .i64 0]) ∧ Rd w' A' ([98].map (Value.int .u8)) ∧ Chg (fun _ => False) w w' := by
  have h1 := readE_yes B 35 d w h rfl (by omega) kB_byt kx1 kx2 kx3 kx4 kx5 kx6 kx7 kx8 kx9 (by simp) (by rw [ka]; decide) kB_lay (fun A' c' w' => by rw [ka]; exact right_k A' c' w')
  rw [ka] at h1
  exact h1

theorem box2 (w : World) (o : Obj) (U : TypeId) (q : Array Value) : BoxAt ((w.alloc o).alloc (.cells q U)) (w.heap.size + 1) U q := by
  have h := BoxAt.new (w.alloc o) U q
  rwa [show (w.alloc o).heap.size = w.heap.size + 1 from Array.size_push ..] at h

set_option maxHeartbeats 1000000 in
set_option maxRecDepth 20000 in
theorem known10_any (w : World) : Calls Tryz.prog 11 #[] w fun e w' => e = .returned (.bool true) ∧ Chg (fun _ => False) w w' := by
  have kc := fun (w : World) (C : Array Value) (n c : Nat) => Lib.run_convert_bytes_const (P := Tryz.prog) w 24 5 C n c Tryz.underlying24 Tryz.underlying5
  have hR0 : Rd ((w.alloc (.cells #[.int .u8 98] 5 (1, 2))).alloc (.cells #[.int .i64 1, .int .i64 1, .int .i64 0, .int .i64 7, .int .i64 0, .int .i64 0, .string { data := #[97] }, .slice (some ⟨w.heap.size, 0, none⟩) 1 1, .slice none 0 0] 32)) (some ⟨w.heap.size, 0, none⟩) ([98].map (Value.int .u8)) :=
    Rd.alloc (.inr ⟨w.heap.size, 0, rfl, fun j u hj => by rw [cell_of_row _ _ _ #[.int .u8 98] _ (1, 2) (heap_alloc_new w _)]; simpa using hj⟩) _
  have bx0 := box2 w (.cells #[.int .u8 98] 5 (1, 2)) 32 #[.int .i64 1, .int .i64 1, .int .i64 0, .int .i64 7, .int .i64 0, .int .i64 0, .string { data := #[97] }, .slice (some ⟨w.heap.size, 0, none⟩) 1 1, .slice none 0 0]
  have hc0 : Chg (fun _ => False) w ((w.alloc (.cells #[.int .u8 98] 5 (1, 2))).alloc (.cells #[.int .i64 1, .int .i64 1, .int .i64 0, .int .i64 7, .int .i64 0, .int .i64 0, .string { data := #[97] }, .slice (some ⟨w.heap.size, 0, none⟩) 1 1, .slice none 0 0] 32)) := ((Chg.refl _ _).alloc _).alloc _
  go_enter Tryz.func11, Tryz.ntmps11
  go_wp2_with (first
    | (go_at_call 32; go_must (refine (sameE_yes 1 1 0 7 0 0 { data := #[97] } (some ⟨w.heap.size, 0, none⟩) A2 1 1 1 c2 [98] w5 hX5 hY5 rfl rfl (by omega)).mono ?_; rintro e w6 ⟨rfl, hc6⟩; have y6 := (by5.keep hc6 (fun h => h)).cell 6 rfl))
    | (go_at_call 31; (with_reducible refine (isName_any { data := #[] } w4 (by decide)).mono ?_); rintro e w5 ⟨rfl, hc5⟩; rw [name_0]; have hd5 := hd4.trans hc5 (fun x hx => hx.elim); have bx5 := bx3.keep hd5 (fun h => h); have by5 := by3.keep hd5 (fun h => h); have hX5 := hX3.keep hd5 (fun _ _ h => h); have hY5 := hY3.keep hd5 (fun _ _ h => h); have q0 := bx5.cell 0 rfl; have q1 := bx5.cell 1 rfl; have q2 := bx5.cell 2 rfl; have q3 := bx5.cell 3 rfl; have q4 := bx5.cell 4 rfl; have q5 := bx5.cell 5 rfl; have q6 := bx5.cell 6 rfl; have q7 := bx5.cell 7 rfl; have q8 := bx5.cell 8 rfl; have r0 := by5.cell 0 rfl; have r1 := by5.cell 1 rfl; have r2 := by5.cell 2 rfl; have r3 := by5.cell 3 rfl; have r4 := by5.cell 4 rfl; have r5 := by5.cell 5 rfl; have r6 := by5.cell 6 rfl; have r7 := by5.cell 7 rfl; have r8 := by5.cell 8 rfl)
    | (go_at_call 31; (with_reducible refine (isName_any { data := #[65] } w3 (by decide)).mono ?_); rintro e w4 ⟨rfl, hc4⟩; rw [name_A]; have hd4 := hd3.trans hc4 (fun x hx => hx.elim))
    | (go_at_call 31; go_must (refine (isName_any { data := #[97, 45, 49] } _ (by decide)).mono ?_; rintro e w3 ⟨rfl, hd3⟩; rw [name_a1]))
    | (go_at_call 30; go_must (refine (read_k A1 c1 w1 (Rd.of_own ho1)).mono ?_; rintro e w2 ⟨A2, c2, rfl, hr2, hc2⟩; have bx3 := (bx1.keep hc2 (fun h => h)).keep (S := fun _ => False) ((Chg.refl _ _).alloc (.cells #[.int .i64 1, .int .i64 1, .int .i64 0, .int .i64 7, .int .i64 0, .int .i64 0, .string { data := #[97] }, .slice A2 1 c2, .slice none 0 0] 32)) (fun h => h); have by3 := BoxAt.new w2 32 #[.int .i64 1, .int .i64 1, .int .i64 0, .int .i64 7, .int .i64 0, .int .i64 0, .string { data := #[97] }, .slice A2 1 c2, .slice none 0 0]; have hX3 := (hX1.keep hc2 (fun _ _ h => h)).alloc (.cells #[.int .i64 1, .int .i64 1, .int .i64 0, .int .i64 7, .int .i64 0, .int .i64 0, .string { data := #[97] }, .slice A2 1 c2, .slice none 0 0] 32); have hY3 := hr2.alloc (.cells #[.int .i64 1, .int .i64 1, .int .i64 0, .int .i64 7, .int .i64 0, .int .i64 0, .string { data := #[97] }, .slice A2 1 c2, .slice none 0 0] 32)))
    | (go_at_call 22; go_must (refine (lay_k _ 1 _ hR0).mono ?_; rintro e w1 ⟨A1, c1, rfl, ho1, hc1⟩; have bx1 := bx0.keep hc1 (fun h => h); have hX1 := hR0.keep hc1 (fun _ _ h => h))))
  go_ret
  exact ⟨rfl, ((((hc0.trans hc1 (fun x hx => hx.elim)).trans hc2 (fun x hx => hx.elim)).alloc _).trans hd5 (fun x hx => hx.elim)).trans hc6 (fun x hx => hx.elim)⟩
end Go.Proofs.YtngfimjbgopgjaaGreatDoor
