/- Contracts of event.Lay, of events without Defs (gen_evlay.py). -/
import Derived.Test.YtngfimjbgopgjaaGreatDoorEvRightA
import Derived.Test.YtngfimjbgopgjaaGreatDoorNetAll
namespace Go.Proofs.YtngfimjbgopgjaaGreatDoor
open Go.RowKit
set_option linter.unusedVariables false

/-- An event's bytes. -/
def evB (id ver tm ty node m : Int) (nm : ByteArray) (bs : List Int) : List Int :=
  [] ++ be (IntKind.u64.wrap id) 2 ++ be (IntKind.u64.wrap ver) 8 ++ be (IntKind.u64.wrap tm) 8 ++ be (IntKind.u64.wrap ty) 1 ++ be (IntKind.u64.wrap node) 1 ++ be (IntKind.u64.wrap m) 8 ++ shortB (strB nm) ++ shortB bs ++ be (IntKind.u64.wrap 0) 1
theorem shortB_len (xs : List Int) : (shortB xs).length = 2 + xs.length := by rw [shortB, List.length_append, be_length]

set_option maxHeartbeats 2000000 in
set_option maxRecDepth 20000 in
theorem layE_yes (id ver tm ty node m : Int) (nm : ByteArray) (A : Option Addr) (n c : Nat) (bs : List Int) (w : World) (hrd : Rd w A (bs.map (Value.int .u8))) (hn : bs.length = n) (hd : n ≤ 40) (hs : nm.size ≤ 16)
    (hR : ∀ w', Calls Tryz.prog 28 #[.agg #[.int .i64 id, .int .i64 ver, .int .i64 tm, .int .i64 ty, .int .i64 node, .int .i64 m, .string nm, .slice A n c, .slice none 0 0]] w' fun e w'' => e = .returned (.bool true) ∧ Chg (fun _ => False) w' w'') :
    Calls Tryz.prog 22 #[.agg #[.int .i64 id, .int .i64 ver, .int .i64 tm, .int .i64 ty, .int .i64 node, .int .i64 m, .string nm, .slice A n c, .slice none 0 0]] w fun e w' => ∃ A' c', e = .returned (.tuple #[.slice A' (evB id ver tm ty node m nm bs).length c', .int .i64 0]) ∧ w'.ownsRow w.heap.size 5 1 (.slice A' (evB id ver tm ty node m nm bs).length c') (evB id ver tm ty node m nm bs).length ((evB id ver tm ty node m nm bs).map (Value.int .u8)) ∧ Chg (fun _ => False) w w' := by
  have HNN := Lib.hid hn
  have HRD := Lib.hid hrd
  clear hn hrd
  have bE := BoxAt.new w 32 #[.int .i64 id, .int .i64 ver, .int .i64 tm, .int .i64 ty, .int .i64 node, .int .i64 m, .string nm, .slice A n c, .slice none 0 0]
  have hc0 : Chg (fun _ => False) w (w.alloc (.cells #[.int .i64 id, .int .i64 ver, .int .i64 tm, .int .i64 ty, .int .i64 node, .int .i64 m, .string nm, .slice A n c, .slice none 0 0] 32)) := (Chg.refl _ _).alloc _
  go_enter Tryz.func22, Tryz.ntmps22
  go_wp2_with (first
    | (go_at_call 46; (with_reducible refine (u8_any p A10 c10 b10 0 w10 h10 (by omega)).mono ?_); rintro e w11 ⟨rfl, hw⟩; obtain ⟨A11, c11, h11, hc11, hA11⟩ := hw.own hc10 hp hA10; clear hw; obtain ⟨b11, hb⟩ : ∃ z, z = b10 ++ be (IntKind.u64.wrap 0) 1 := ⟨_, rfl⟩; rw [← hb] at h11; have l11 : b11.length ≤ 89 := (by rw [hb, List.length_append, be_length]; omega); have HB11 := Lib.hid hb; clear hb; have q9 := (bE1.keep hc11 (fun h => h)).cell 8 rfl)
    | (go_at_call 23; have hx : Rd w9 A (bs.map (Value.int .u8)) := ((HRD.out.keep hc0 (fun _ _ h => h)).keep hc1 (fun _ _ h => h)).keep hc9 (fun _ _ h => h); (with_reducible refine (short_yes p A9 c9 b9 A c n bs w9 h9 hx (hoff A9 hA9) HNN.out (by omega) (by omega)).mono ?_); rintro e w10 ⟨rfl, hw⟩; obtain ⟨A10, c10, h10, hc10, hA10⟩ := hw.own hc9 hp hA9; clear hw; obtain ⟨b10, hb⟩ : ∃ z, z = b9 ++ shortB bs := ⟨_, rfl⟩; rw [← hb] at h10; have l10 : b10.length ≤ 88 := (by rw [hb, List.length_append, shortB_len, HNN.out]; omega); have HB10 := Lib.hid hb; clear hb; have q8 := (bE1.keep hc10 (fun h => h)).cell 8 rfl)
    | (go_at_call 47; (with_reducible refine (text_yes p A8 c8 b8 nm w8 h8 (by omega) (by omega)).mono ?_); rintro e w9 ⟨rfl, hw⟩; obtain ⟨A9, c9, h9, hc9, hA9⟩ := hw.own hc8 hp hA8; clear hw; obtain ⟨b9, hb⟩ : ∃ z, z = b8 ++ shortB (strB nm) := ⟨_, rfl⟩; rw [← hb] at h9; have l9 : b9.length ≤ 46 := (by rw [hb, List.length_append, shortB_len, strB_length]; omega); have HB9 := Lib.hid hb; clear hb; have q7 := (bE1.keep hc9 (fun h => h)).cell 7 rfl)
    | (go_at_call 45; (with_reducible refine (u64_any p A7 c7 b7 m w7 h7 (by omega)).mono ?_); rintro e w8 ⟨rfl, hw⟩; obtain ⟨A8, c8, h8, hc8, hA8⟩ := hw.own hc7 hp hA7; clear hw; obtain ⟨b8, hb⟩ : ∃ z, z = b7 ++ be (IntKind.u64.wrap m) 8 := ⟨_, rfl⟩; rw [← hb] at h8; have l8 : b8.length ≤ 28 := (by rw [hb, List.length_append, be_length]; omega); have HB8 := Lib.hid hb; clear hb; have q6 := (bE1.keep hc8 (fun h => h)).cell 6 rfl)
    | (go_at_call 46; (with_reducible refine (u8_any p A6 c6 b6 node w6 h6 (by omega)).mono ?_); rintro e w7 ⟨rfl, hw⟩; obtain ⟨A7, c7, h7, hc7, hA7⟩ := hw.own hc6 hp hA6; clear hw; obtain ⟨b7, hb⟩ : ∃ z, z = b6 ++ be (IntKind.u64.wrap node) 1 := ⟨_, rfl⟩; rw [← hb] at h7; have l7 : b7.length ≤ 20 := (by rw [hb, List.length_append, be_length]; omega); have HB7 := Lib.hid hb; clear hb; have q5 := (bE1.keep hc7 (fun h => h)).cell 5 rfl)
    | (go_at_call 46; (with_reducible refine (u8_any p A5 c5 b5 ty w5 h5 (by omega)).mono ?_); rintro e w6 ⟨rfl, hw⟩; obtain ⟨A6, c6, h6, hc6, hA6⟩ := hw.own hc5 hp hA5; clear hw; obtain ⟨b6, hb⟩ : ∃ z, z = b5 ++ be (IntKind.u64.wrap ty) 1 := ⟨_, rfl⟩; rw [← hb] at h6; have l6 : b6.length ≤ 19 := (by rw [hb, List.length_append, be_length]; omega); have HB6 := Lib.hid hb; clear hb; have q4 := (bE1.keep hc6 (fun h => h)).cell 4 rfl)
    | (go_at_call 45; (with_reducible refine (u64_any p A4 c4 b4 tm w4 h4 (by omega)).mono ?_); rintro e w5 ⟨rfl, hw⟩; obtain ⟨A5, c5, h5, hc5, hA5⟩ := hw.own hc4 hp hA4; clear hw; obtain ⟨b5, hb⟩ : ∃ z, z = b4 ++ be (IntKind.u64.wrap tm) 8 := ⟨_, rfl⟩; rw [← hb] at h5; have l5 : b5.length ≤ 18 := (by rw [hb, List.length_append, be_length]; omega); have HB5 := Lib.hid hb; clear hb; have q3 := (bE1.keep hc5 (fun h => h)).cell 3 rfl)
    | (go_at_call 45; (with_reducible refine (u64_any p A3 c3 b3 ver w3 h3 (by omega)).mono ?_); rintro e w4 ⟨rfl, hw⟩; obtain ⟨A4, c4, h4, hc4, hA4⟩ := hw.own hc3 hp hA3; clear hw; obtain ⟨b4, hb⟩ : ∃ z, z = b3 ++ be (IntKind.u64.wrap ver) 8 := ⟨_, rfl⟩; rw [← hb] at h4; have l4 : b4.length ≤ 10 := (by rw [hb, List.length_append, be_length]; omega); have HB4 := Lib.hid hb; clear hb; have q2 := (bE1.keep hc4 (fun h => h)).cell 2 rfl)
    | (go_at_call 21; (with_reducible refine (u16_any p A2 c2 b2 id w2 h2 (by omega)).mono ?_); rintro e w3 ⟨rfl, hw⟩; obtain ⟨A3, c3, h3, hc3, hA3⟩ := hw.own hc2 hp hA2; clear hw; obtain ⟨b3, hb⟩ : ∃ z, z = b2 ++ be (IntKind.u64.wrap id) 2 := ⟨_, rfl⟩; rw [← hb] at h3; have l3 : b3.length ≤ 2 := (by rw [hb, List.length_append, be_length]; omega); have HB3 := Lib.hid hb; clear hb; have q1 := (bE1.keep hc3 (fun h => h)).cell 1 rfl)
    | (go_at_call 20; go_must (refine (newW_any w1).mono ?_; rintro e w2 ⟨p, rfl, hp, h2', hc2⟩; obtain ⟨A2, hA2e⟩ : ∃ A2 : Option Addr, A2 = none := ⟨_, rfl⟩; obtain ⟨c2, hc2e⟩ : ∃ c2 : Nat, c2 = 0 := ⟨_, rfl⟩; obtain ⟨b2, hb2e⟩ : ∃ b2 : List Int, b2 = [] := ⟨_, rfl⟩; have h2 : WAt 88 w2 p A2 c2 b2 := (by rw [hA2e, hc2e, hb2e]; exact h2'); clear h2'; have hA2 : ∀ x, blk A2 = some x → w1.heap.size ≤ x := (by rw [hA2e]; intro x hx; cases hx); have l2 : b2.length ≤ 0 := (by rw [hb2e]; simp); have HB2 := Lib.hid hb2e; clear hA2e hc2e hb2e; have hoff : ∀ A' : Option Addr, (∀ x, blk A' = some x → w1.heap.size ≤ x) → bs ≠ [] → Off (wFoot p A') A := (by intro A' hA' hne x hx hf; have h1 := HRD.out.old (by simpa using hne) x hx; have h2 := (hc0.trans hc1 (fun x hx => hx.elim)).size; rcases hf with hf | hf; (have : x = p := hf); omega; have := hA' x hf; omega); have q0 := (bE1.keep hc2 (fun h => h)).cell 0 rfl))
    | (go_at_call 28; go_must (refine (hR _).mono ?_; rintro e w1 ⟨rfl, hc1⟩; have bE1 := bE.keep hc1 (fun h => h))))
  go_loopw [53] (fun i w' => i = .int .i64 0 ∧ w' = w11) (fun _ _ => 0)
  case atStart => exact ⟨rfl, rfl⟩
  case round =>
    obtain ⟨rfl, rfl⟩ := hrel
    have hbb : evB id ver tm ty node m nm bs = b11 := by rw [HB11.out, HB10.out, HB9.out, HB8.out, HB7.out, HB6.out, HB5.out, HB4.out, HB3.out, HB2.out]; rfl
    have HBB := Lib.hid hbb
    clear hbb
    go_wp2_with (go_at_call 24; go_must (refine (bytes_any p A11 c11 b11 _ h11 (by omega)).mono ?_; rintro e w12 ⟨A12, c12, rfl, ho12, hc12⟩))
    go_ret2
    rw [HBB.out]
    exact ⟨A12, c12, rfl, own_mono ho12 ((hc0.trans hc1 (fun x hx => hx.elim)).trans hc11 (fun x hx => hx.elim)).size, ((hc0.trans hc1 (fun x hx => hx.elim)).trans hc11 (fun x hx => hx.elim)).trans hc12 (fun x hx => hx.elim)⟩

theorem layE_no (v : Value) (w : World) (T : Array Value) (hv : v = .agg T)
    (hR : ∀ w', Calls Tryz.prog 28 #[v] w' fun e w'' => e = .returned (.bool false) ∧ Chg (fun _ => False) w' w'') (id ver tm ty node m : Int) (nm : ByteArray) (A : Option Addr) (n c : Nat) (hT : T = #[.int .i64 id, .int .i64 ver, .int .i64 tm, .int .i64 ty, .int .i64 node, .int .i64 m, .string nm, .slice A n c, .slice none 0 0]) :
    Calls Tryz.prog 22 #[v] w fun e w' => e = .returned (.tuple #[.slice none 0 0, .int .i64 1]) ∧ Chg (fun _ => False) w w' := by
  subst hv hT
  have hc0 : Chg (fun _ => False) w (w.alloc (.cells #[.int .i64 id, .int .i64 ver, .int .i64 tm, .int .i64 ty, .int .i64 node, .int .i64 m, .string nm, .slice A n c, .slice none 0 0] 32)) := (Chg.refl _ _).alloc _
  go_enter Tryz.func22, Tryz.ntmps22
  go_wp2_with (go_at_call 28; go_must (refine (hR _).mono ?_; rintro e w1 ⟨rfl, hc1⟩))
  go_ret2
  exact ⟨rfl, hc0.trans hc1 (fun x hx => hx.elim)⟩
end Go.Proofs.YtngfimjbgopgjaaGreatDoor
