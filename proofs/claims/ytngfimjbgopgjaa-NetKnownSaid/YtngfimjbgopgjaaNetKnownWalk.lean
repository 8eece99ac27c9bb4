/- NetKnown: the walk of cutoverlaw22.NetKnown: it answers true, and turns nothing that was there. -/
import Derived.Test.YtngfimjbgopgjaaOctKnown
import Derived.Test.YtngfimjbgopgjaaNetTake2
namespace Go.Proofs.Ytngfimjbgopgjaa.netKnown
open Go.RowKit
set_option linter.unusedVariables false

/-- A block that the net's calls do not turn. -/
def Clr (w : World) (g : Nat) (A : Option Addr) (x : Nat) : Prop := ¬ nCore g A x ∧ x < w.heap.size
theorem Clr.new {w : World} {base g c : Nat} {A : Option Addr} {ps : List Pk} {lost : Int} (h : NetAt w base g A c ps lost) {w' : World} {x : Nat} (h1 : w.heap.size ≤ x) (h2 : x < w'.heap.size) : Clr w' g A x :=
  ⟨fun hx => by have := (h.core_lt x hx).2; omega, h2⟩
theorem Clr.still {S : Nat → Prop} {w w' : World} {g x : Nat} {A : Option Addr} (h : Clr w g A x) (hc : Chg S w w') : Clr w' g A x := ⟨h.1, Nat.lt_of_lt_of_le h.2 hc.size⟩
theorem Clr.step {w w' : World} {g x : Nat} {A A' : Option Addr} (h : Clr w g A x) (hc : Chg (nCore g A) w w') (hn : ∀ x, nCore g A' x → nCore g A x ∨ w.heap.size ≤ x) : Clr w' g A' x :=
  ⟨fun hx => by rcases hn x hx with h1 | h1; exact h.1 h1; have := h.2; omega, Nat.lt_of_lt_of_le h.2 hc.size⟩

/-- A packet of one byte in a box, both out of the net's way. -/
structure Got (w : World) (g : Nat) (A : Option Addr) (bx : Nat) (v : Int) : Prop where
  ex : ∃ f t b o c, BoxPk w bx f t (.slice (some ⟨b, o, none⟩) 1 c) ∧ w.cell? ⟨b, o, none⟩ = some (.int .u8 v) ∧ Clr w g A bx ∧ Clr w g A b
theorem Got.still {w w' : World} {g bx : Nat} {A : Option Addr} {v : Int} (h : Got w g A bx v) (hc : Chg (fun _ => False) w w') : Got w' g A bx v := by
  obtain ⟨f, t, b, o, c, h1, h2, h3, h4⟩ := h.ex
  exact ⟨f, t, b, o, c, h1.keep hc (fun h => h), hc.cell_some h2 (fun h => h), h3.still hc, h4.still hc⟩
theorem Got.step {w w' : World} {g bx : Nat} {A A' : Option Addr} {v : Int} (h : Got w g A bx v) (hc : Chg (nCore g A) w w') (hn : ∀ x, nCore g A' x → nCore g A x ∨ w.heap.size ≤ x) : Got w' g A' bx v := by
  obtain ⟨f, t, b, o, c, h1, h2, h3, h4⟩ := h.ex
  exact ⟨f, t, b, o, c, h1.keep hc h3.1, hc.cell_some h2 h4.1, h3.step hc hn, h4.step hc hn⟩
/-- What Peek or Take told, laid in a box. -/
theorem Got.made {w w2 : World} {base g c c2 : Nat} {A A2 A' : Option Addr} {ps ps' : List Pk} {lost lost' : Int} {v : Int} (h : NetAt w base g A c ps lost) (h2 : NetAt w2 base g A' c2 ps' lost') (hsz : w.heap.size ≤ w2.heap.size) (hn : ∀ x, nCore g A' x → nCore g A x ∨ w.heap.size ≤ x)
    (hap : ∀ x, blk A2 = some x → ¬ nCore g A' x) (hf : Fresh w w2 A2 [v]) (f t : Int) (d : Nat) :
    Got (w2.alloc (.cells #[.int .i64 f, .int .i64 t, .slice A2 1 d] 69)) g A' w2.heap.size v := by
  obtain ⟨b, o, rfl, _⟩ := hf.1.at_ (k := 0) (by simp)
  have v0 : w2.cell? ⟨b, o, none⟩ = some (.int .u8 v) := hf.1.cells rfl 0 _ rfl
  have hb := hf.2 (by simp) b rfl
  have hal : Chg (fun _ => False) w2 (w2.alloc (.cells #[.int .i64 f, .int .i64 t, .slice (some ⟨b, o, none⟩) 1 d] 69)) := (Chg.refl _ _).alloc _
  exact ⟨f, t, b, o, d, BoxPk.new w2 f t _, hal.cell_some v0 (fun h => h), ⟨fun hx => by have := (h2.core_lt _ hx).2; omega, by simp⟩, ⟨hap b rfl, by simp; omega⟩⟩
/-- The packets are those of the numbers below k. -/
def Nums (ps : List Pk) (k : Nat) : Prop := ps.length = k ∧ ∀ j (h : j < ps.length), ps[j].bs = [(j : Int) % 256]
theorem Nums.step {ps : List Pk} {k : Nat} {p : Pk} (h : Nums ps k) (hp : p.bs = [(k : Int) % 256]) : Nums (ps ++ [p]) (k + 1) := by
  obtain ⟨h1, h2⟩ := h
  refine ⟨by simp [h1], fun j hj => ?_⟩
  by_cases hjk : j < ps.length
  · rw [List.getElem_append_left hjk]; exact h2 j hjk
  · have : j = ps.length := by simp at hj; omega
    subst this
    rw [List.getElem_append_right (Nat.le_refl _)]
    simp [hp, h1]
theorem butAt_get {ps : List Pk} {k j m : Nat} (hj : j < (butAt ps k).length) (hm : m < ps.length) (e : (if j < k then j else j + 1) = m) : (butAt ps k)[j] = ps[m] := by
  have h1 : (butAt ps k)[j]? = ps[m]? := by
    rw [show butAt ps k = ps.eraseIdx k from (List.eraseIdx_eq_take_drop_succ ps k).symm, List.getElem?_eraseIdx]
    subst e
    split <;> rfl
  rw [List.getElem?_eq_getElem hj, List.getElem?_eq_getElem hm] at h1
  exact Option.some.inj h1
theorem Nums.but3 {ps : List Pk} (h : Nums ps 500) : (butAt ps 3).length = 499 ∧ (∀ h3 : 3 < (butAt ps 3).length, (butAt ps 3)[3].bs = [4]) ∧ ∀ h0 : 0 < (butAt ps 3).length, (butAt ps 3)[0].bs = [0] := by
  obtain ⟨h1, h2⟩ := h
  have hl : (butAt ps 3).length = 499 := by rw [butAt_len (by omega)]; omega
  refine ⟨hl, fun h3 => ?_, fun h0 => ?_⟩
  · rw [butAt_get h3 (m := 4) (by omega) rfl, h2 4 (by omega)]
    decide
  · rw [butAt_get h0 (m := 0) (by omega) rfl, h2 0 (by omega)]
    decide
theorem Got.use {w : World} {g bx : Nat} {A : Option Addr} {v : Int} (h : Got w g A bx v) : ∃ s, w.cell? ⟨bx, 2, none⟩ = some s ∧ (convert 34 9 s).run Try.prog w = .ok (.string (strOfNums [v])) w := by
  obtain ⟨f, t, b, o, c, h1, h2, _, _⟩ := h.ex
  refine ⟨_, h1.c2, run_convert_rd (P := Try.prog) w 34 9 5 Try.underlying34 Try.underlying5 Try.underlying9 (some ⟨b, o, none⟩) 1 c [v] rfl (.inr ⟨b, o, rfl, fun j u hj => ?_⟩)⟩
  match j, hj with
  | 0, hj => simp at hj; subst hj; simpa using h2
theorem k3 : strOfNums [3] = { data := #[3] } := by decide
theorem k4 : strOfNums [4] = { data := #[4] } := by decide
theorem fresh_off {w w' : World} {base g c : Nat} {A B : Option Addr} {ps : List Pk} {lost : Int} {v : Int} (h : NetAt w base g A c ps lost) (hf : Fresh w w' B [v]) : ∀ x, blk B = some x → ¬ nCore g A x := fun x hx hc => by
  have h1 := (h.core_lt x hc).2
  have h2 := (hf.2 (by simp) x hx).1
  omega

set_option maxHeartbeats 2000000 in
set_option maxRecDepth 20000 in
theorem walk (w : World) : Calls Try.prog 15 #[] w (SaysTrue w) := by
  go_enter Try.func15, Try.ntmps15
  go_wp2_with (first
    | (go_at_call 67; go_must (refine (newNet_any w).mono ?_; rintro e w1 ⟨rfl, h1, hc1⟩))
    | (go_at_call 68; go_must (refine (known22_any _).mono ?_; rintro e w2 ⟨rfl, hc2⟩; have hN := h1.keep hc2 (fun x hx => hx.elim); have hcw := hc1.trans hc2 (fun x hx => hx.elim))))
  clear h1 hc1 hc2
  obtain ⟨g, hg⟩ : ∃ g, g = w.heap.size := ⟨_, rfl⟩
  have HG := Lib.hid hg
  rw [← hg] at hN
  rw [← hg]
  clear hg
  go_loopw [2] (fun i wr => ∃ k : Nat, k ≤ 500 ∧ i = .int .i64 k ∧ ∃ (A : Option Addr) (c : Nat) (ps : List Pk), NetAt wr g g A c ps 0 ∧ Nums ps k ∧ Chg (fun _ => False) w wr) (fun i _ => 500 - (intOf i).toNat)
  case atStart => exact ⟨0, by omega, rfl, none, 0, [], hN, ⟨rfl, fun j h => by simp at h⟩, hcw⟩
  case round =>
    clear hN hcw
    obtain ⟨k, hk, rfl, A, c, ps, hN, hO, hc⟩ := hrel
    have HO := Lib.hid hO
    have hpl := hO.1
    clear hO
    have hg0 : w.heap.size ≤ g := by rw [HG.out]; exact Nat.le_refl _
    by_cases hkn : k < 500
    · have hw8 : IntKind.u8.wrap (k : Int) = (k : Int) % 256 := IntKind.wrap_u8 _
      have hN2 := hN.keep (S := fun _ => False) ((Chg.refl _ _).alloc (.cells #[.int .u8 ((k : Int) % 256)] 5)) (fun x hx => hx.elim)
      have hbase : g ≤ (wr.alloc (.cells #[.int .u8 ((k : Int) % 256)] 5)).heap.size := by have := hN.lt; simp; omega
      go_wp2_with (go_at_call 69; go_must (refine (put_yes _ g g c A ps 0 hN2 1 2 (some ⟨wr.heap.size, 0, none⟩) 1 1 [(k : Int) % 256] (Rd.newRow wr _ _ _ rfl) rfl (by omega) (by omega) hbase).mono ?_; rintro e w3 ⟨rfl, p, hp, hnt⟩; obtain ⟨A3, c3, h3, hc3⟩ := hnt.own hN2 (hc.alloc _) hg0))
      go_roundw
      case rel => exact ⟨k + 1, by omega, by go_num, A3, c3, ps ++ [p], h3, HO.out.step (congrArg (fun x => x.2.2) hp), hc3⟩
      case measure => simp [intOf]; omega
    · have hk5 : k = 500 := by omega
      subst hk5
      have hb3 : ps[3].bs = [3] := by rw [HO.out.2 3 (by omega)]; decide
      obtain ⟨l1, l2, l3⟩ := HO.out.but3
      have hm3 := l2 (by omega)
      have hm0 := l3 (by omega)
      clear l2 l3
      have HM3 := Lib.hid hm3
      have HM0 := Lib.hid hm0
      have HB3 := Lib.hid hb3
      clear hm3 hm0 hb3
      go_wp2_with (first
        | (go_at_call 69; go_must (refine (put_no _ g g c A ps 0 hN 0 0 none 0 0 (by omega) (by omega) (by omega)).mono ?_; rintro e w1 ⟨rfl, A1, c1, h1, hd1, _, _⟩; have hcw1 : Chg (fun _ => False) w w1 := hc.trans hd1 (fun x hx => .inr (Nat.le_trans hg0 (hN.core_lt x hx).1))))
        | (go_at_call 79; go_must (refine (double_no _ g g c1 A1 ps _ h1 0 (.inr (.inr (by omega)))).mono ?_; rintro e w' ⟨rfl, rfl⟩))
        | (go_at_call 72; (have hpk := peek_yes _ g g c1 A1 (butAt ps 3) _ h3a 3 (by omega) (by omega) (by rw [HM3.out]; simp)); rw [HM3.out] at hpk; refine hpk.mono ?_; rintro e w4 ⟨A4, c4, rfl, hf4, hd4⟩; simp only [List.length_cons, List.length_nil, Nat.zero_add]; have h4 := h3a.keep hd4 (fun x hx => hx.elim); have hal4 : Chg (fun _ => False) w4 (w4.alloc (.cells #[.int .i64 (butAt ps 3)[3].f, .int .i64 (butAt ps 3)[3].t, .slice A4 1 c4] 69)) := (Chg.refl _ _).alloc _; have R4 := Got.made h3a h4 hd4.size (fun x hx => .inl hx) (fresh_off h3a hf4) hf4 (butAt ps 3)[3].f (butAt ps 3)[3].t c4; have P4 := (P3.still hd4).still hal4; have Q4 := (Q3.still hd4).still hal4; have h4a := h4.keep hal4 (fun x hx => hx.elim); have hcw4 := (hcw3.trans hd4 (fun x hx => hx.elim)).trans hal4 (fun x hx => hx.elim))
        | (go_at_call 72; go_must (have hpk := peek_yes _ g g c1 A1 ps _ h1 3 (by omega) (by omega) (by rw [HB3.out]; simp); rw [HB3.out] at hpk; refine hpk.mono ?_; rintro e w2 ⟨A2, c2, rfl, hf2, hd2⟩; simp only [List.length_cons, List.length_nil, Nat.zero_add]; have h2 := h1.keep hd2 (fun x hx => hx.elim); have hal2 : Chg (fun _ => False) w2 (w2.alloc (.cells #[.int .i64 ps[3].f, .int .i64 ps[3].t, .slice A2 1 c2] 69)) := (Chg.refl _ _).alloc _; have P2 := Got.made h1 h2 hd2.size (fun x hx => .inl hx) (fresh_off h1 hf2) hf2 ps[3].f ps[3].t c2; have h2a := h2.keep hal2 (fun x hx => hx.elim); have hcw2 := (hcw1.trans hd2 (fun x hx => hx.elim)).trans hal2 (fun x hx => hx.elim)))
        | (go_at_call 71; (refine (take_no _ g g c1 A1 (butAt ps 3) _ h4a 500 (.inr (by omega))).mono ?_; rintro e w5 ⟨rfl, hd5⟩; have hal5 : Chg (fun _ => False) w5 (w5.alloc (.cells #[.int .i64 0, .int .i64 0, .slice none 0 0] 69)) := (Chg.refl _ _).alloc _; have h5a := (h4a.keep hd5 (fun x hx => hx.elim)).keep hal5 (fun x hx => hx.elim); have P5 := (P4.still hd5).still hal5; have Q5 := (Q4.still hd5).still hal5; have R5 := (R4.still hd5).still hal5; have hcw5 := (hcw4.trans hd5 (fun x hx => hx.elim)).trans hal5 (fun x hx => hx.elim)))
        | (go_at_call 71; go_must (have htk := take_yes2 _ g g c1 A1 ps _ h2a 3 (by omega) (by omega) (by rw [HB3.out]; simp); rw [HB3.out] at htk; refine htk.mono ?_; rintro e w3 ⟨A3, c3, rfl, hf3, h3, hd3⟩; simp only [List.length_cons, List.length_nil, Nat.zero_add]; have hal3 : Chg (fun _ => False) w3 (w3.alloc (.cells #[.int .i64 ps[3].f, .int .i64 ps[3].t, .slice A3 1 c3] 69)) := (Chg.refl _ _).alloc _; have P3 := (P2.step hd3 (fun x hx => .inl hx)).still hal3; have Q3 := Got.made h2a h3 hd3.size (fun x hx => .inl hx) (fresh_off h2a hf3) hf3 ps[3].f ps[3].t c3; have h3a := h3.keep hal3 (fun x hx => hx.elim); have hcw3 := (hcw2.trans hd3 (fun x hx => .inr (Nat.le_trans hg0 (h2a.core_lt x hx).1))).trans hal3 (fun x hx => hx.elim)))
        | (go_at_call 80; (refine (lose_no _ g g c6 A6 _ _ h6 (-1) (.inl (by omega))).mono ?_; rintro e w7 ⟨rfl, hd7⟩; have h7 := h6.keep hd7 (fun x hx => hx.elim); obtain ⟨sp, sp1, sp2⟩ := (P6.still hd7).use; obtain ⟨sq, sq1, sq2⟩ := (Q6.still hd7).use; obtain ⟨sr, sr1, sr2⟩ := (R6.still hd7).use; rw [k3] at sp2 sq2; rw [k4] at sr2; have hcw7 := hcw6.trans hd7 (fun x hx => hx.elim)))
        | (go_at_call 80; go_must (refine (lose_yes _ g g c1 A1 (butAt ps 3) _ h5a 0 (by omega) (by omega) (by rw [HM0.out]; simp) (by omega) (by omega)).mono ?_; rintro e w6 ⟨rfl, A6, c6, h6, hd6, hco6, _⟩; have P6 := P5.step hd6 hco6; have Q6 := Q5.step hd6 hco6; have R6 := R5.step hd6 hco6; have hcw6 := hcw5.trans hd6 (fun x hx => .inr (Nat.le_trans hg0 (h5a.core_lt x hx).1)); have hl6 : (butAt (butAt ps 3) 0).length = 498 := (by rw [butAt_len (by omega)]; omega)))
        | (go_at_call 70; go_must (refine (netLen_any _ g g c6 A6 _ _ h7).mono ?_; rintro e w' ⟨rfl, rfl⟩; rw [hl6]))
        | (go_at_call 73; go_must (refine (netLost_any _ g g c6 A6 _ _ h7).mono ?_; rintro e w' ⟨rfl, rfl⟩)))
      go_ret
      exact ⟨rfl, hcw7⟩
end Go.Proofs.Ytngfimjbgopgjaa.netKnown
