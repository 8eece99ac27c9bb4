/- Contracts of slices.Clone over items, and of items.Add. -/
import Derived.Test.YtngfimjbgopgjaaItV
import Derived.Test.YtngfimjbgopgjaaItR
import Derived.Lib.SliceRun
namespace Go.Proofs.Ytngfimjbgopgjaa
open Go.RowKit
set_option linter.unusedVariables false

set_option maxHeartbeats 1000000 in
set_option maxRecDepth 20000 in
theorem cloneIt_any (A : Option Addr) (n c : Nat) (l : List It) (w : World) (h : RdIt w A l) (hn : l.length = n) (hn2 : n ≤ 1048576) :
    Calls Try.prog 115 #[.slice A n c] w (GivesIt w l) := by
  subst hn
  obtain ⟨i0, hi, hz0, hz1, hz2⟩ := info_parts itemInfo
  have q : ∀ (w : World) (a : Option Addr) (n c n' c' : Nat), (binOp .eql 52 (.slice a n c) (.slice none n' c')).run Try.prog w = .ok (.bool a.isNone) w := fun w a n c n' c' => Lib.run_eql_slice_nil w _ _ a n c n' c' Try.underlying52
  have hl1 : 0 + l.length ≤ maxLen := by simp only [maxLen]; omega
  have hl2 : (0 + l.length) * 16 ≤ 140737488355328 := by omega
  have hmade : (w.alloc (.cells #[] 75)).ownsRow w.heap.size 75 2 (.slice (some ⟨w.heap.size, 0, none⟩) 0 0) 0 [] := World.ownsRow_made w #[] 0 (Nat.le_refl _) (by decide) rfl
  rcases A with _ | ad
  · have hl : l = [] := by
      rcases h with h | ⟨b, o, e, _⟩
      · rcases l with _ | ⟨x, l⟩
        · rfl
        · cases h
      · cases e
    subst hl
    go_enter Try.func115, Try.ntmps115
    go_wp2_with fail
    go_ret
    exact ⟨none, 0, rfl, World.ownsRow_nil _ _ _ _, Chg.refl _ _⟩
  · go_enter Try.func115, Try.ntmps115
    go_wp2_with (at_builtin; refine wpList_append_rd _ rfl (.tmp 5) (.tmp 6) 52 rfl w.heap.size 75 i0 _ 2 16 Try.underlying52 hi hz0 hz1 hz2 rfl (by decide) (some ⟨w.heap.size, 0, none⟩) 0 0 [] rfl hmade (some ad) l.length c (itC l) rfl (itC_len l) (Rd.alloc h _) (itC_one _) hl1 hl2 (by simp) ?_; intro A2 c2 w2 hown2 hg2 hb2)
    go_ret
    simp only [Nat.zero_add, List.nil_append] at hown2
    exact ⟨A2, c2, by simp, hown2, ((Chg.refl _ w).alloc _).trans hg2 (by intro x hx; cases hx; exact .inr (Nat.le_refl _))⟩

theorem own_mono2 {w : World} {base base' : Nat} {e : TypeId} {size n : Nat} {v : Value} {xs : List Value} (h : w.ownsRow base e size v n xs) (hb : base' ≤ base) : w.ownsRow base' e size v n xs := by
  refine ⟨h.1, ?_⟩
  rcases h.2 with h | ⟨g, cap, cur, h1, h2, h3⟩
  · exact .inl h
  · exact .inr ⟨g, cap, cur, h1, Nat.le_trans hb h2, h3⟩
/-- What items.Add gives when it adds. -/
def Added (w : World) (l : List It) (e : Ending) (w' : World) : Prop :=
  ∃ A c, e = .returned (.tuple #[.slice A l.length c, .int .i64 0]) ∧ OwnIt w' w.heap.size A c l ∧ Chg (fun _ => False) w w'

set_option maxHeartbeats 2000000 in
set_option maxRecDepth 20000 in
theorem add_yes (A : Option Addr) (n c : Nat) (l : List It) (id v : Int) (w : World) (h : RdIt w A l) (hn : l.length = n) (hn2 : n ≤ 1048576) (hr : rightL l = true) (h0 : 0 ≤ (lastL l).1) (hid : id = (lastL l).1 + 1) (hv : rightB v = true) (hlv : (lastL l).2 ≤ v) (h200 : id ≤ 200) :
    Calls Try.prog 86 #[.slice A n c, .int .i64 id, .int .i64 v] w (Added w (grownL l id v)) := by
  subst hn
  obtain ⟨x, hx⟩ : ∃ x, x = lastL l := ⟨_, rfl⟩
  rw [← hx] at h0 hid hlv
  have HX := Lib.hid hx
  have HR := Lib.hid hr
  have HV := Lib.hid hv
  subst hid
  clear hx hr hv
  have hlen := grownL_len l (x.1 + 1) v
  have e1 : (x.1 + 1 != x.1 + 1) = false := by simp
  have hnl : ¬ v < x.2 := by omega
  have hw1 : IntKind.i64.wrap (x.1 + 1) = x.1 + 1 := IntWalk.i64_in _ (by omega)
  go_enter Try.func86, Try.ntmps86
  go_wp2_with (first
    | (go_at_call 88; go_must (refine (last_any A l.length c l w h rfl hn2).mono ?_; rintro e w1 ⟨rfl, hc1⟩; rw [← HX.out]; have b1 := BoxIt.new w1 x; have r1 : RdIt (w1.alloc (.cells #[.int .i64 x.1, .int .i64 x.2] 75)) A l := Rd.alloc (h.keep hc1 (fun _ _ h => h)) _))
    | (go_at_call 87; go_must (refine (itemsRight_any A l.length c l _ r1 rfl hn2).mono ?_; rintro e w2 ⟨rfl, hc2⟩; rw [HR.out]; have b2 := b1.keep hc2 (fun h => h); have q0 := b2.c0; have q1 := b2.c1; have r2 : RdIt w2 A l := r1.keep hc2 (fun _ _ h => h); have hcA : Chg (fun _ => False) w w2 := (hc1.alloc _).trans hc2 (fun x hx => hx.elim)))
    | (go_at_call 23; go_must (refine (right_any _ _).mono ?_; rintro e w' ⟨rfl, rfl⟩; rw [HV.out]))
    | (go_at_call 115; go_must (refine (cloneIt_any A l.length c l _ r2 rfl hn2).mono ?_; rintro e w3 ⟨A3, c3, rfl, ho3, hc3⟩))
    | (go_at_call 104; go_must (refine (grown_any w2.heap.size A3 c3 l (x.1 + 1) v w3 ho3 hn2 hc3.size).mono ?_; rintro e w4 hgr; obtain ⟨A4, c4, rfl, ho4, hc4⟩ := Grew.own hgr ho3 hc3)))
  go_ret2
  exact ⟨A4, c4, rfl, own_mono2 ho4 hcA.size, hcA.trans hc4 (fun x hx => hx.elim)⟩

set_option maxHeartbeats 2000000 in
set_option maxRecDepth 20000 in
theorem add_no (A : Option Addr) (n c : Nat) (l : List It) (id v : Int) (w : World) (h : RdIt w A l) (hn : l.length = n) (hn2 : n ≤ 1048576) (hr : rightL l = true) (h0 : 0 ≤ (lastL l).1 ∧ (lastL l).1 ≤ 1000) (hbad : id ≠ (lastL l).1 + 1 ∨ id = (lastL l).1 + 1 ∧ rightB v = true ∧ v < (lastL l).2) :
    Calls Try.prog 86 #[.slice A n c, .int .i64 id, .int .i64 v] w fun e w' => e = .returned (.tuple #[.slice none 0 0, .int .i64 1]) ∧ Chg (fun _ => False) w w' := by
  subst hn
  obtain ⟨x, hx⟩ : ∃ x, x = lastL l := ⟨_, rfl⟩
  rw [← hx] at h0 hbad
  have HX := Lib.hid hx
  have HR := Lib.hid hr
  clear hx hr
  obtain ⟨h0, h1⟩ := h0
  have hw1 : IntKind.i64.wrap (x.1 + 1) = x.1 + 1 := IntWalk.i64_in _ (by omega)
  rcases hbad with hb | ⟨hb, hv, hlv⟩
  · have e1 : (id != x.1 + 1) = true := by simpa using hb
    go_enter Try.func86, Try.ntmps86
    go_wp2_with (first
      | (go_at_call 88; go_must (refine (last_any A l.length c l w h rfl hn2).mono ?_; rintro e w1 ⟨rfl, hc1⟩; rw [← HX.out]; have b1 := BoxIt.new w1 x; have r1 : RdIt (w1.alloc (.cells #[.int .i64 x.1, .int .i64 x.2] 75)) A l := Rd.alloc (h.keep hc1 (fun _ _ h => h)) _))
      | (go_at_call 87; go_must (refine (itemsRight_any A l.length c l _ r1 rfl hn2).mono ?_; rintro e w2 ⟨rfl, hc2⟩; rw [HR.out]; have b2 := b1.keep hc2 (fun h => h); have q0 := b2.c0; have q1 := b2.c1; have hcA : Chg (fun _ => False) w w2 := (hc1.alloc _).trans hc2 (fun x hx => hx.elim))))
    go_ret2
    exact ⟨rfl, hcA⟩
  · subst hb
    have HV := Lib.hid hv
    clear hv
    have e1 : (x.1 + 1 != x.1 + 1) = false := by simp
    go_enter Try.func86, Try.ntmps86
    go_wp2_with (first
      | (go_at_call 88; go_must (refine (last_any A l.length c l w h rfl hn2).mono ?_; rintro e w1 ⟨rfl, hc1⟩; rw [← HX.out]; have b1 := BoxIt.new w1 x; have r1 : RdIt (w1.alloc (.cells #[.int .i64 x.1, .int .i64 x.2] 75)) A l := Rd.alloc (h.keep hc1 (fun _ _ h => h)) _))
      | (go_at_call 87; go_must (refine (itemsRight_any A l.length c l _ r1 rfl hn2).mono ?_; rintro e w2 ⟨rfl, hc2⟩; rw [HR.out]; have b2 := b1.keep hc2 (fun h => h); have q0 := b2.c0; have q1 := b2.c1; have hcA : Chg (fun _ => False) w w2 := (hc1.alloc _).trans hc2 (fun x hx => hx.elim)))
      | (go_at_call 23; go_must (refine (right_any _ _).mono ?_; rintro e w' ⟨rfl, rfl⟩; rw [HV.out])))
    go_ret2
    exact ⟨rfl, hcA⟩
end Go.Proofs.Ytngfimjbgopgjaa
