/- Contracts of items.Lay and of slices.Equal over bytes. -/
import Derived.Test.YtngfimjbgopgjaaItV
import Derived.Test.YtngfimjbgopgjaaItR
import Derived.Test.YtngfimjbgopgjaaOctKnown
namespace Go.Proofs.Ytngfimjbgopgjaa
open Go.RowKit
set_option linter.unusedVariables false

/-- The bytes of items, one by one. -/
def itB : List It → List Int
  | [] => []
  | x :: l => be (IntKind.u64.wrap x.1) 2 ++ be (IntKind.u64.wrap x.2) 8 ++ itB l
def layB (l : List It) : List Int := be (IntKind.u64.wrap l.length) 2 ++ itB l
theorem itB_len (l : List It) : (itB l).length = l.length * 10 := by
  induction l with
  | nil => rfl
  | cons x l ih => simp only [itB, List.length_append, be_length, ih, List.length_cons]; omega
theorem itB_snoc (l : List It) (x : It) : itB (l ++ [x]) = itB l ++ be (IntKind.u64.wrap x.1) 2 ++ be (IntKind.u64.wrap x.2) 8 := by
  induction l with
  | nil => simp [itB]
  | cons y l ih => simp [itB, ih]

set_option maxHeartbeats 2000000 in
set_option maxRecDepth 20000 in
theorem lay_yes (A : Option Addr) (n c : Nat) (l : List It) (w : World) (h : RdIt w A l) (hn : l.length = n) (hn2 : n ≤ 1000) (hr : rightL l = true) :
    Calls Try.prog 89 #[.slice A n c] w fun e w' => ∃ A' c', e = .returned (.tuple #[.slice A' (layB l).length c', .int .i64 0]) ∧ w'.ownsRow w.heap.size 5 1 (.slice A' (layB l).length c') (layB l).length ((layB l).map (Value.int .u8)) ∧ Chg (fun _ => False) w w' := by
  subst hn
  have HA := Lib.hid h
  have HR := Lib.hid hr
  clear h hr
  go_enter Try.func89, Try.ntmps89
  go_wp2_with (first
    | (go_at_call 87; go_must (refine (itemsRight_any A l.length c l w HA.out rfl (by omega)).mono ?_; rintro e w1 ⟨rfl, hc1⟩; rw [HR.out]))
    | (go_at_call 27; go_must (refine (newW_any w1).mono ?_; rintro e w2 ⟨p, rfl, hp, h2, hc2⟩; have hcw2 := hc1.trans hc2 (fun x hx => hx.elim); have hp2 : w.heap.size ≤ p := Nat.le_trans hc1.size hp))
    | (go_at_call 31; go_must (refine (u16_any p none 0 [] l.length w2 h2 (by simp)).mono ?_; rintro e w3 ⟨rfl, hw3⟩; obtain ⟨A3, c3, h3, hc3, hA3⟩ := hw3.own hcw2 hp2 (fun x hx => by cases hx))))
  rw [List.nil_append] at h3
  clear hw3 h2 hc2 hcw2 hc1 hp
  go_loopw [17] (fun i wr => ∃ k : Nat, k ≤ l.length ∧ i = .int .i64 k ∧ ∃ (B : Option Addr) (d : Nat), WAt 106 wr p B d (be (IntKind.u64.wrap l.length) 2 ++ itB (l.take k)) ∧ Chg (fun _ => False) w wr ∧ ∀ x, blk B = some x → w.heap.size ≤ x) (fun i _ => l.length - (intOf i).toNat)
  case atStart => exact ⟨0, by omega, rfl, A3, c3, by simpa [itB] using h3, hc3, hA3⟩
  case round =>
    clear h3 hc3 hA3
    obtain ⟨k, hk, rfl, B, d, hW, hc, hB⟩ := hrel
    by_cases hkn : k < l.length
    · obtain ⟨b, o, rfl, _⟩ := HA.out.at_ (k := 0) (by rw [itC_len]; omega)
      obtain ⟨p0, p1⟩ := it_cells (HA.out.keep hc (fun _ _ h => h)) k hkn
      have hsn : Hid (itB (l.take (k + 1)) = itB (l.take k) ++ be (IntKind.u64.wrap l[k].1) 2 ++ be (IntKind.u64.wrap l[k].2) 8) := Lib.hid (by rw [List.take_add_one, List.getElem?_eq_getElem hkn]; exact itB_snoc _ _)
      have hblen : (itB (l.take k)).length ≤ 10000 := by rw [itB_len, List.length_take]; omega
      obtain ⟨x, hx⟩ : ∃ x, x = l[k] := ⟨_, rfl⟩
      rw [← hx] at p0 p1 hsn
      clear hx
      obtain ⟨bs, hbs⟩ : ∃ bs, bs = be (IntKind.u64.wrap l.length) 2 ++ itB (l.take k) := ⟨_, rfl⟩
      have HBS := Lib.hid hbs
      have hbl : bs.length ≤ 10002 := by rw [hbs, List.length_append, be_length]; omega
      rw [← hbs] at hW
      clear hbs hblen
      have hbb : b ≠ wr.heap.size := by have := World.block_lt_of_cell? wr _ p0; simp at this; omega
      have hal : Chg (fun _ => False) wr (wr.alloc (.cells #[.int .i64 x.1, .int .i64 x.2] 75)) := (Chg.refl _ _).alloc _
      have hW1 := hW.keep hal (fun h => h) (fun _ _ h => h)
      have bx := BoxIt.new wr x
      have q0 := bx.c0
      have q1 := bx.c1
      have hpl := hW.lt
      have hBl : ∀ y, blk B = some y → y < wr.heap.size := fun y hy => (own_lt hW.own hy).2
      go_wp2_with (first
        | (go_at_call 31; go_must (refine (u16_any p B d bs x.1 _ hW1 (by omega)).mono ?_; rintro e w4 ⟨rfl, hw4⟩; have hx4 := hw4; obtain ⟨_, _, _, hf4, _⟩ := hx4; have r1 := hf4.cell_some q1 (fun hs => by rcases hs with hs | hs; (have : wr.heap.size = p := hs); omega; have := hBl _ hs; simp at this); obtain ⟨B4, d4, h4, hc4, hB4⟩ := hw4.own (hc.alloc _) hp2 hB))
        | (go_at_call 33; go_must (refine (u64_any p B4 d4 _ x.2 _ h4 (by rw [List.length_append, be_length]; omega)).mono ?_; rintro e w5 ⟨rfl, hw5⟩; obtain ⟨B5, d5, h5, hc5, hB5⟩ := hw5.own hc4 hp2 hB4)))
      go_roundw
      case rel => exact ⟨k + 1, by omega, by go_num, B5, d5, by rw [hsn.out, ← List.append_assoc, ← List.append_assoc, ← HBS.out]; exact h5, hc5, hB5⟩
      case measure => simp [intOf]; omega
    · have hkn' : k = l.length := by omega
      subst hkn'
      rw [List.take_length] at hW
      have hlb : (layB l).length ≤ 140737488355328 := by unfold layB; rw [List.length_append, be_length, itB_len]; omega
      go_wp2_with (go_at_call 41; go_must (refine (bytes_any p B d (layB l) wr hW hlb).mono ?_; rintro e w6 ⟨A6, c6, rfl, ho6, hc6⟩))
      go_ret2
      exact ⟨A6, c6, rfl, by
        refine ⟨ho6.1, ?_⟩
        rcases ho6.2 with h | ⟨g, cap, cur, h1, h2, h3⟩
        · exact .inl h
        · exact .inr ⟨g, cap, cur, h1, Nat.le_trans hc.size h2, h3⟩, hc.trans hc6 (fun x hx => hx.elim)⟩
end Go.Proofs.Ytngfimjbgopgjaa
