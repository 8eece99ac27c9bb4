/- EvLayG, EvLayA, in one text (merge.py). -/
import Derived.Test.YtngfimjbgopgjaaGreatDoorEvRightG
import Derived.Test.YtngfimjbgopgjaaGreatDoorEvLay
/- Contract of event.Lay at any event that is right (gen_evlayg.py). -/
namespace Go.Proofs.YtngfimjbgopgjaaGreatDoor
open Go.RowKit
set_option linter.unusedVariables false

/-- What a write leaves, a block told that is out of its way. -/
theorem Wrote.step3 {T : TypeId} {w0 w w' : World} {p x : Nat} {A : Option Addr} {bs : List Int} (hw : Wrote T w w' p A bs) (hc : Chg (fun _ => False) w0 w) (hp : w0.heap.size ≤ p) (hA : ∀ x, blk A = some x → w0.heap.size ≤ x) (hx : x < w.heap.size ∧ ¬ wFoot p A x) :
    ∃ A' c', WAt T w' p A' c' bs ∧ Chg (fun _ => False) w0 w' ∧ (∀ x, blk A' = some x → w0.heap.size ≤ x) ∧ Chg (wFoot p A) w w' ∧ (x < w'.heap.size ∧ ¬ wFoot p A' x) := by
  obtain ⟨A', c', h, hc2, hb⟩ := hw
  refine ⟨A', c', h, hc.trans hc2 ?_, ?_, hc2, Nat.lt_of_lt_of_le hx.1 hc2.size, ?_⟩
  · rintro y (rfl | hy)
    · exact .inr hp
    · exact .inr (hA y hy)
  · intro y hy
    rcases hb with e | ⟨g, e, hg⟩
    · exact hA y (by rw [← e]; exact hy)
    · rw [e] at hy; cases hy; exact Nat.le_trans hc.size hg
  · rintro (hy | hy)
    · exact hx.2 (.inl hy)
    · rcases hb with e | ⟨g, e, hg⟩
      · exact hx.2 (.inr (by rw [← e]; exact hy))
      · rw [e] at hy; cases hy; have := hx.1; omega
/-- The bytes of needs, of Defs, of an event. -/
def needsBy : List Int → List Int
  | [] => []
  | n :: l => be (IntKind.u64.wrap n) 1 ++ needsBy l
def defsBy : List (List Int × Int × Int) → List Int
  | [] => []
  | d :: l => be (IntKind.u64.wrap d.2.1) 1 ++ be (IntKind.u64.wrap d.2.2) 8 ++ be (IntKind.u64.wrap d.1.length) 1 ++ needsBy d.1 ++ defsBy l
theorem needsBy_snoc (l : List Int) (n : Int) : needsBy (l ++ [n]) = needsBy l ++ be (IntKind.u64.wrap n) 1 := by
  induction l with
  | nil => simp [needsBy]
  | cons y l ih => simp [needsBy, ih]
theorem defsBy_snoc (l : List (List Int × Int × Int)) (d : List Int × Int × Int) : defsBy (l ++ [d]) = defsBy l ++ (be (IntKind.u64.wrap d.2.1) 1 ++ be (IntKind.u64.wrap d.2.2) 8 ++ be (IntKind.u64.wrap d.1.length) 1 ++ needsBy d.1) := by
  induction l with
  | nil => simp [defsBy]
  | cons y l ih => simp [defsBy, ih]
theorem needsBy_len (l : List Int) : (needsBy l).length = l.length := by
  induction l with
  | nil => rfl
  | cons x l ih => simp only [needsBy, List.length_append, be_length, ih, List.length_cons]; omega
theorem defsBy_len (l : List (List Int × Int × Int)) (h : ∀ d ∈ l, d.1.length ≤ 8) : (defsBy l).length ≤ 18 * l.length := by
  induction l with
  | nil => simp [defsBy]
  | cons x l ih =>
    have h1 := ih (fun d hd => h d (List.mem_cons_of_mem _ hd))
    have h2 := h x List.mem_cons_self
    simp only [defsBy, List.length_append, be_length, needsBy_len, List.length_cons]
    omega
def evGB (id ver tm ty node m : Int) (nm : ByteArray) (bs : List Int) (dl : List (List Int × Int × Int)) : List Int :=
  [] ++ be (IntKind.u64.wrap id) 2 ++ be (IntKind.u64.wrap ver) 8 ++ be (IntKind.u64.wrap tm) 8 ++ be (IntKind.u64.wrap ty) 1 ++ be (IntKind.u64.wrap node) 1 ++ be (IntKind.u64.wrap m) 8 ++ shortB (strB nm) ++ shortB bs ++ be (IntKind.u64.wrap dl.length) 1 ++ defsBy dl

set_option maxHeartbeats 4000000 in
set_option maxRecDepth 20000 in
theorem layG_yes (id ver tm ty node m : Int) (nm : ByteArray) (A : Option Addr) (n c : Nat) (bs : List Int) (D : Option Addr) (dn dc : Nat) (dl : List Df) (w : World) (hrd : Rd w A (bs.map (Value.int .u8))) (hn : bs.length = n) (hd : n ≤ 40) (hs : nm.size ≤ 16) (hD : RdDf w D dl) (hdn : dl.length = dn) (hd8 : dn ≤ 8) (hns : ∀ d ∈ dl, d.ns.length ≤ 8)
    (hR : ∀ w', Chg (fun _ => False) w w' → Calls Tryz.prog 28 #[.agg #[.int .i64 id, .int .i64 ver, .int .i64 tm, .int .i64 ty, .int .i64 node, .int .i64 m, .string nm, .slice A n c, .slice D dn dc]] w' fun e w'' => e = .returned (.bool true) ∧ Chg (fun _ => False) w' w'') :
    Calls Tryz.prog 22 #[.agg #[.int .i64 id, .int .i64 ver, .int .i64 tm, .int .i64 ty, .int .i64 node, .int .i64 m, .string nm, .slice A n c, .slice D dn dc]] w fun e w' => ∃ A' c', e = .returned (.tuple #[.slice A' (evGB id ver tm ty node m nm bs (dl.map Df.v)).length c', .int .i64 0]) ∧ w'.ownsRow w.heap.size 5 1 (.slice A' (evGB id ver tm ty node m nm bs (dl.map Df.v)).length c') (evGB id ver tm ty node m nm bs (dl.map Df.v)).length ((evGB id ver tm ty node m nm bs (dl.map Df.v)).map (Value.int .u8)) ∧ Chg (fun _ => False) w w' := by
  have HNN := Lib.hid hn
  have HRD := Lib.hid hrd
  have HD := Lib.hid hD
  have HDN := Lib.hid hdn
  have HNS := Lib.hid hns
  clear hn hrd hD hdn hns
  have bE := BoxAt.new w 32 #[.int .i64 id, .int .i64 ver, .int .i64 tm, .int .i64 ty, .int .i64 node, .int .i64 m, .string nm, .slice A n c, .slice D dn dc]
  have hc0 : Chg (fun _ => False) w (w.alloc (.cells #[.int .i64 id, .int .i64 ver, .int .i64 tm, .int .i64 ty, .int .i64 node, .int .i64 m, .string nm, .slice A n c, .slice D dn dc] 32)) := (Chg.refl _ _).alloc _
  have hRR := hR _ hc0
  go_enter Tryz.func22, Tryz.ntmps22
  go_wp2_with (first
    | (go_at_call 46; (with_reducible refine (u8_any p A10 c10 b10 dn w10 h10 (by omega)).mono ?_); rintro e w11 ⟨rfl, hw⟩; obtain ⟨A11, c11, h11, hc11, hA11⟩ := hw.own hc10 hp hA10; clear hw; obtain ⟨b11, hb⟩ : ∃ z, z = b10 ++ be (IntKind.u64.wrap dn) 1 := ⟨_, rfl⟩; rw [← hb] at h11; have l11 : b11.length ≤ 89 := (by rw [hb, List.length_append, be_length]; omega); have HB11 := Lib.hid hb; clear hb; have q9 := (bE1.keep hc11 (fun h => h)).cell 8 rfl)
    | (go_at_call 23; have hx : Rd w9 A (bs.map (Value.int .u8)) := ((HRD.out.keep hc0 (fun _ _ h => h)).keep hc1 (fun _ _ h => h)).keep hc9 (fun _ _ h => h); (with_reducible refine (short_yes p A9 c9 b9 A c n bs w9 h9 hx (hoff A9 hA9) HNN.out (by omega) (by omega)).mono ?_); rintro e w10 ⟨rfl, hw⟩; obtain ⟨A10, c10, h10, hc10, hA10⟩ := hw.own hc9 hp hA9; clear hw; obtain ⟨b10, hb⟩ : ∃ z, z = b9 ++ shortB bs := ⟨_, rfl⟩; rw [← hb] at h10; have l10 : b10.length ≤ 88 := (by rw [hb, List.length_append, shortB_len, HNN.out]; omega); have HB10 := Lib.hid hb; clear hb; have q8 := (bE1.keep hc10 (fun h => h)).cell 8 rfl)
    | (go_at_call 47; (with_reducible refine (text_yes p A8 c8 b8 nm w8 h8 (by omega) (by omega)).mono ?_); rintro e w9 ⟨rfl, hw⟩; obtain ⟨A9, c9, h9, hc9, hA9⟩ := hw.own hc8 hp hA8; clear hw; obtain ⟨b9, hb⟩ : ∃ z, z = b8 ++ shortB (strB nm) := ⟨_, rfl⟩; rw [← hb] at h9; have l9 : b9.length ≤ 46 := (by rw [hb, List.length_append, shortB_len, strB_length]; omega); have HB9 := Lib.hid hb; clear hb; have q7 := (bE1.keep hc9 (fun h => h)).cell 7 rfl)
    | (go_at_call 45; (with_reducible refine (u64_any p A7 c7 b7 m w7 h7 (by omega)).mono ?_); rintro e w8 ⟨rfl, hw⟩; obtain ⟨A8, c8, h8, hc8, hA8⟩ := hw.own hc7 hp hA7; clear hw; obtain ⟨b8, hb⟩ : ∃ z, z = b7 ++ be (IntKind.u64.wrap m) 8 := ⟨_, rfl⟩; rw [← hb] at h8; have l8 : b8.length ≤ 28 := (by rw [hb, List.length_append, be_length]; omega); have HB8 := Lib.hid hb; clear hb; have q6 := (bE1.keep hc8 (fun h => h)).cell 6 rfl)
    | (go_at_call 46; (with_reducible refine (u8_any p A6 c6 b6 node w6 h6 (by omega)).mono ?_); rintro e w7 ⟨rfl, hw⟩; obtain ⟨A7, c7, h7, hc7, hA7⟩ := hw.own hc6 hp hA6; clear hw; obtain ⟨b7, hb⟩ : ∃ z, z = b6 ++ be (IntKind.u64.wrap node) 1 := ⟨_, rfl⟩; rw [← hb] at h7; have l7 : b7.length ≤ 20 := (by rw [hb, List.length_append, be_length]; omega); have HB7 := Lib.hid hb; clear hb; have q5 := (bE1.keep hc7 (fun h => h)).cell 5 rfl)
    | (go_at_call 46; (with_reducible refine (u8_any p A5 c5 b5 ty w5 h5 (by omega)).mono ?_); rintro e w6 ⟨rfl, hw⟩; obtain ⟨A6, c6, h6, hc6, hA6⟩ := hw.own hc5 hp hA5; clear hw; obtain ⟨b6, hb⟩ : ∃ z, z = b5 ++ be (IntKind.u64.wrap ty) 1 := ⟨_, rfl⟩; rw [← hb] at h6; have l6 : b6.length ≤ 19 := (by rw [hb, List.length_append, be_length]; omega); have HB6 := Lib.hid hb; clear hb; have q4 := (bE1.keep hc6 (fun h => h)).cell 4 rfl)
    | (go_at_call 45; (with_reducible refine (u64_any p A4 c4 b4 tm w4 h4 (by omega)).mono ?_); rintro e w5 ⟨rfl, hw⟩; obtain ⟨A5, c5, h5, hc5, hA5⟩ := hw.own hc4 hp hA4; clear hw; obtain ⟨b5, hb⟩ : ∃ z, z = b4 ++ be (IntKind.u64.wrap tm) 8 := ⟨_, rfl⟩; rw [← hb] at h5; have l5 : b5.length ≤ 18 := (by rw [hb, List.length_append, be_length]; omega); have HB5 := Lib.hid hb; clear hb; have q3 := (bE1.keep hc5 (fun h => h)).cell 3 rfl)
    | (go_at_call 45; (with_reducible refine (u64_any p A3 c3 b3 ver w3 h3 (by omega)).mono ?_); rintro e w4 ⟨rfl, hw⟩; obtain ⟨A4, c4, h4, hc4, hA4⟩ := hw.own hc3 hp hA3; clear hw; obtain ⟨b4, hb⟩ : ∃ z, z = b3 ++ be (IntKind.u64.wrap ver) 8 := ⟨_, rfl⟩; rw [← hb] at h4; have l4 : b4.length ≤ 10 := (by rw [hb, List.length_append, be_length]; omega); have HB4 := Lib.hid hb; clear hb; have q2 := (bE1.keep hc4 (fun h => h)).cell 2 rfl)
    | (go_at_call 21; (with_reducible refine (u16_any p A2 c2 b2 id w2 h2 (by omega)).mono ?_); rintro e w3 ⟨rfl, hw⟩; obtain ⟨A3, c3, h3, hc3, hA3⟩ := hw.own hc2 hp hA2; clear hw; obtain ⟨b3, hb⟩ : ∃ z, z = b2 ++ be (IntKind.u64.wrap id) 2 := ⟨_, rfl⟩; rw [← hb] at h3; have l3 : b3.length ≤ 2 := (by rw [hb, List.length_append, be_length]; omega); have HB3 := Lib.hid hb; clear hb; have q1 := (bE1.keep hc3 (fun h => h)).cell 1 rfl)
    | (go_at_call 20; go_must (refine (newW_any w1).mono ?_; rintro e w2 ⟨p, rfl, hp, h2', hc2⟩; obtain ⟨A2, hA2e⟩ : ∃ A2 : Option Addr, A2 = none := ⟨_, rfl⟩; obtain ⟨c2, hc2e⟩ : ∃ c2 : Nat, c2 = 0 := ⟨_, rfl⟩; obtain ⟨b2, hb2e⟩ : ∃ b2 : List Int, b2 = [] := ⟨_, rfl⟩; have h2 : WAt 88 w2 p A2 c2 b2 := (by rw [hA2e, hc2e, hb2e]; exact h2'); clear h2'; have hA2 : ∀ x, blk A2 = some x → w1.heap.size ≤ x := (by rw [hA2e]; intro x hx; cases hx); have l2 : b2.length ≤ 0 := (by rw [hb2e]; simp); have HB2 := Lib.hid hb2e; clear hA2e hc2e hb2e; have hoff : ∀ A' : Option Addr, (∀ x, blk A' = some x → w1.heap.size ≤ x) → bs ≠ [] → Off (wFoot p A') A := (by intro A' hA' hne x hx hf; have h1 := HRD.out.old (by simpa using hne) x hx; have h2 := (hc0.trans hc1 (fun x hx => hx.elim)).size; rcases hf with hf | hf; (have : x = p := hf); omega; have := hA' x hf; omega); have q0 := (bE1.keep hc2 (fun h => h)).cell 0 rfl))
    | (go_at_call 28; go_must (refine hRR.mono ?_; rintro e w1 ⟨rfl, hc1⟩; have bE1 := bE.keep hc1 (fun h => h))))
  have hbb : b11 = [] ++ be (IntKind.u64.wrap id) 2 ++ be (IntKind.u64.wrap ver) 8 ++ be (IntKind.u64.wrap tm) 8 ++ be (IntKind.u64.wrap ty) 1 ++ be (IntKind.u64.wrap node) 1 ++ be (IntKind.u64.wrap m) 8 ++ shortB (strB nm) ++ shortB bs ++ be (IntKind.u64.wrap (dn : Int)) 1 := by
    rw [HB11.out, HB10.out, HB9.out, HB8.out, HB7.out, HB6.out, HB5.out, HB4.out, HB3.out, HB2.out]
  have HBB := Lib.hid hbb
  clear hbb
  have hw1 : Chg (fun _ => False) w w1 := hc0.trans hc1 (fun x hx => hx.elim)
  obtain ⟨vl, hvl⟩ : ∃ vl, vl = dl.map Df.v := ⟨_, rfl⟩
  have hvn : vl.length = dn := by rw [hvl, List.length_map]; exact HDN.out
  have hv8 : ∀ d ∈ vl, d.1.length ≤ 8 := by
    intro d hd
    rw [hvl] at hd
    obtain ⟨x, hx, rfl⟩ := List.mem_map.1 hd
    exact HNS.out x hx
  have HVL := Lib.hid hvl
  have HVN := Lib.hid hvn
  have HV8 := Lib.hid hv8
  clear hvl hvn hv8
  go_loopw [53] (fun i w' => ∃ k : Nat, k ≤ dn ∧ i = .int .i64 k ∧ ∃ (B : Option Addr) (d : Nat), WAt 88 w' p B d (b11 ++ defsBy (vl.take k)) ∧ Chg (fun _ => False) w1 w' ∧ ∀ x, blk B = some x → w1.heap.size ≤ x) (fun i _ => dn - (intOf i).toNat)
  case atStart => exact ⟨0, by omega, rfl, A11, c11, by simpa [defsBy] using h11, hc11, hA11⟩
  case round =>
    clear h3 h4 h5 h6 h7 h8 h9 h10 h11 hc2 hc3 hc4 hc5 hc6 hc7 hc8 hc9 hc10 hc11 hA2 hA3 hA4 hA5 hA6 hA7 hA8 hA9 hA10 hA11 q0 q1 q2 q3 q4 q5 q6 q7 q8 q9
    obtain ⟨k, hk, rfl, B, e, hW, hc, hB⟩ := hrel
    by_cases hkn : k < dn
    · have hkl : k < dl.length := by have := HDN.out; omega
      have hkv : k < vl.length := by have := HVN.out; omega
      have hDr := (HD.out.still hw1).still hc
      obtain ⟨b, o, rfl, _⟩ := hDr.rd.at_ (k := 0) (by rw [dfC_len]; omega)
      obtain ⟨p0, p1, p2⟩ := dfC_get dl k hkl
      have r0 := hDr.rd.cells rfl _ _ p0
      have r1 := hDr.rd.cells rfl _ _ p1
      have r2 := hDr.rd.cells rfl _ _ p2
      rw [← Nat.add_assoc] at r1 r2
      have hdn := hDr.ns dl[k] (List.getElem_mem _)
      have hd8' := HNS.out dl[k] (List.getElem_mem _)
      have hdm : dl[k] ∈ dl := List.getElem_mem _
      have hsn : defsBy (vl.take (k + 1)) = defsBy (vl.take k) ++ (be (IntKind.u64.wrap dl[k].tr) 1 ++ be (IntKind.u64.wrap dl[k].le) 8 ++ be (IntKind.u64.wrap (dl[k].ns.length : Int)) 1 ++ needsBy dl[k].ns) := by
        have e1 : vl[k] = dl[k].v := by simp [HVL.out]
        rw [List.take_add_one, List.getElem?_eq_getElem hkv]
        exact (defsBy_snoc _ _).trans (by rw [e1]; rfl)
      obtain ⟨d, hde⟩ : ∃ d, d = dl[k] := ⟨_, rfl⟩
      rw [← hde] at r0 r1 r2 hdn hd8' hsn hdm
      have HSN := Lib.hid hsn
      clear hsn hde p0 p1 p2
      have hcl : (b11 ++ defsBy (vl.take k)).length ≤ 300 := by
        have h1 := defsBy_len (vl.take k) (fun d hd => HV8.out d (List.mem_of_mem_take hd))
        rw [List.length_take] at h1
        rw [List.length_append]
        omega
      obtain ⟨cur, hcur⟩ : ∃ cur, cur = b11 ++ defsBy (vl.take k) := ⟨_, rfl⟩
      have HC := Lib.hid hcur
      rw [← hcur] at hW hcl
      clear hcur
      have hal : Chg (fun _ => False) wr (wr.alloc (.cells #[.slice d.A d.ns.length d.c, .int .i64 d.tr, .int .i64 d.le] 85)) := (Chg.refl _ _).alloc _
      have hW1 := hW.keep hal (fun h => h) (fun _ _ h => h)
      have bx := BoxAt.new wr 85 #[.slice d.A d.ns.length d.c, .int .i64 d.tr, .int .i64 d.le]
      have hx1 : wr.heap.size < (wr.alloc (.cells #[.slice d.A d.ns.length d.c, .int .i64 d.tr, .int .i64 d.le] 85)).heap.size ∧ ¬ wFoot p B wr.heap.size := ⟨by simp, fun h => by have := hW.foot_lt _ h; omega⟩
      have hca := hc.trans hal (fun x hx => hx.elim)
      have x1 := bx.cell 1 rfl
      go_wp2_with (first
        | (go_at_call 46; (with_reducible refine (u8_any p B3 e3 c3 (d.ns.length : Int) w3 g3 (by omega)).mono ?_); rintro e w4 ⟨rfl, hw4⟩; obtain ⟨B4, e4, g4, hc4, hB4, hf4, hx4⟩ := hw4.step3 hc3 hp hB3 hx3; have y0 := (bx3.keep hf4 hx3.2).cell 0 rfl)
        | (go_at_call 45; go_must (refine (u64_any p B2 e2 c2 d.le w2 g2 (by omega)).mono ?_; rintro e w3 ⟨rfl, hw3⟩; obtain ⟨B3, e3, g3, hc3, hB3, hf3, hx3⟩ := hw3.step3 hc2 hp hB2 hx2; have bx3 := bx2.keep hf3 hx2.2; have z0 := bx3.cell 0 rfl; obtain ⟨c3, hc3e⟩ : ∃ z, z = c2 ++ be (IntKind.u64.wrap d.le) 8 := ⟨_, rfl⟩; rw [← hc3e] at g3; have l3 : c3.length ≤ 309 := (by rw [hc3e, List.length_append, be_length]; omega); have HC3 := Lib.hid hc3e; clear hc3e))
        | (go_at_call 46; go_must (refine (u8_any p B e cur d.tr _ hW1 (by omega)).mono ?_; rintro e' w2 ⟨rfl, hw2⟩; obtain ⟨B2, e2, g2, hc2, hB2, hf2, hx2⟩ := hw2.step3 hca hp hB hx1; have bx2 := bx.keep hf2 hx1.2; have z2 := bx2.cell 2 rfl; obtain ⟨c2, hc2e⟩ : ∃ z, z = cur ++ be (IntKind.u64.wrap d.tr) 1 := ⟨_, rfl⟩; rw [← hc2e] at g2; have l2 : c2.length ≤ 301 := (by rw [hc2e, List.length_append, be_length]; omega); have HC2 := Lib.hid hc2e; clear hc2e)))
      obtain ⟨c4, hc4e⟩ : ∃ z, z = c3 ++ be (IntKind.u64.wrap (d.ns.length : Int)) 1 := ⟨_, rfl⟩
      rw [← hc4e] at g4
      have l4 : c4.length ≤ 310 := by rw [hc4e, List.length_append, be_length]; omega
      have HC4 := Lib.hid hc4e
      clear hc4e
      go_loopw [73] (fun i w' => ∃ j : Nat, j ≤ d.ns.length ∧ i = .int .i64 j ∧ ∃ (B : Option Addr) (e : Nat), WAt 88 w' p B e (c4 ++ needsBy (d.ns.take j)) ∧ Chg (fun _ => False) w1 w' ∧ ∀ x, blk B = some x → w1.heap.size ≤ x) (fun i _ => d.ns.length - (intOf i).toNat)
      case atStart => exact ⟨0, by omega, rfl, B4, e4, by simpa [needsBy] using g4, hc4, hB4⟩
      case round =>
        clear g4 hc4 hB4 hf4 hx4 hW hW1 hB hx1 bx
        obtain ⟨j, hj, rfl, B5, e5, g5, hc5, hB5⟩ := hrel
        by_cases hjn : j < d.ns.length
        · have hr5 := (((HD.out.still hw1).still hc5).ns d (by first | exact hdm)).at_ (k := j) (by rw [List.length_map]; exact hjn)
          obtain ⟨b5, o5, hA5, hq5⟩ := hr5
          rw [List.getElem_map] at hq5
          have hs5 : needsBy (d.ns.take (j + 1)) = needsBy (d.ns.take j) ++ be (IntKind.u64.wrap d.ns[j]) 1 := by
            rw [List.take_add_one, List.getElem?_eq_getElem hjn]
            exact needsBy_snoc _ _
          have l5 : (c4 ++ needsBy (d.ns.take j)).length ≤ 320 := by rw [List.length_append, needsBy_len, List.length_take]; omega
          obtain ⟨x, hx⟩ : ∃ x, x = d.ns[j] := ⟨_, rfl⟩
          rw [← hx] at hq5 hs5
          have HS5 := Lib.hid hs5
          clear hx hs5
          rw [hA5]
          have j0 : (0 : Int) ≤ (j : Int) := by omega
          have j1 : (j : Int) < (d.ns.length : Int) := by omega
          go_wp2_with (go_at_call 46; go_must (refine (u8_any p B5 e5 _ x _ g5 (by omega)).mono ?_; rintro e w6 ⟨rfl, hw6⟩; obtain ⟨B6, e6, g6, hc6, hB6⟩ := hw6.own hc5 hp hB5))
          go_roundw
          case rel => exact ⟨j + 1, by omega, by go_num, B6, e6, by rw [HS5.out, ← List.append_assoc]; exact g6, hc6, hB6⟩
          case measure => simp [intOf]; omega
        · have hje : j = d.ns.length := by omega
          subst hje
          rw [List.take_length] at g5
          go_wp2_with fail
          go_roundw
          case rel => exact ⟨k + 1, by omega, by go_num, B5, e5, by
            rw [HSN.out]
            rw [HC4.out, HC3.out, HC2.out, HC.out] at g5
            simpa only [List.append_assoc] using g5, hc5, hB5⟩
          case measure => simp [intOf]; omega
    · have hke : k = dn := by omega
      subst hke
      have hall : evGB id ver tm ty node m nm bs vl = b11 ++ defsBy vl := by rw [evGB, HBB.out, HVN.out]
      rw [List.take_of_length_le (by rw [HVN.out]; exact Nat.le_refl _), ← hall] at hW
      have hlen : (evGB id ver tm ty node m nm bs vl).length ≤ 1000 := by
        have h1 := defsBy_len vl HV8.out
        rw [HVN.out] at h1
        rw [hall, List.length_append]
        omega
      obtain ⟨fin, hfin⟩ : ∃ fin, fin = evGB id ver tm ty node m nm bs vl := ⟨_, rfl⟩
      rw [← hfin] at hW hlen
      have HF := Lib.hid hfin
      clear hall hfin
      go_wp2_with (go_at_call 24; go_must (refine (bytes_any p B e fin _ hW (by omega)).mono ?_; rintro e w12 ⟨A12, c12, rfl, ho12, hc12⟩))
      go_ret2
      rw [← HVL.out, ← HF.out]
      exact ⟨A12, c12, rfl, own_mono ho12 (hw1.trans hc (fun x hx => hx.elim)).size, (hw1.trans hc (fun x hx => hx.elim)).trans hc12 (fun x hx => hx.elim)⟩
end Go.Proofs.YtngfimjbgopgjaaGreatDoor

/- Contract of event.Lay at any event. -/
namespace Go.Proofs.YtngfimjbgopgjaaGreatDoor
open Go.RowKit
set_option linter.unusedVariables false

theorem needsB_len {c : Int} : ∀ {l : List Int} {a : Int}, needsB a c l = true → l = [] ∨ (l.length : Int) ≤ c - 1 - a
  | [], _, _ => .inl rfl
  | n :: l, a, h => by
    simp only [needsB, Bool.and_eq_true, decide_eq_true_eq] at h
    obtain ⟨⟨h1, h2⟩, h3⟩ := h
    rcases needsB_len h3 with h4 | h4
    · subst h4
      right
      simp
      omega
    · right
      rw [List.length_cons]
      omega
/-- What is right is short. -/
theorem rightEB_short {id ver tm ty node m : Int} {nm : ByteArray} {n : Nat} {dl : List (List Int × Int × Int)} (h : rightEB id ver tm ty node m nm n dl = true) : nm.size ≤ 16 ∧ n ≤ 40 ∧ dl.length ≤ 8 ∧ ∀ d ∈ dl, d.1.length ≤ 8 := by
  simp only [rightEB, Bool.and_eq_true] at h
  obtain ⟨_, _, _, _, _, h5, h6⟩ := h
  simp only [txtB, Bool.and_eq_true, Bool.or_eq_true, decide_eq_true_eq, Bool.not_eq_true'] at h5
  obtain ⟨⟨h7, h8⟩, h9⟩ := h5
  refine ⟨?_, ?_, ?_⟩
  · rcases h8 with h8 | h8
    · rw [h8] at h7
      have : nm.size = 0 := by simpa using h7
      omega
    · simp only [isNameB, Bool.and_eq_true, decide_eq_true_eq] at h8
      omega
  · omega
  · by_cases hd : defsB ty = true
    · rw [if_pos hd] at h6
      simp only [rightDefsB, Bool.and_eq_true, decide_eq_true_eq, List.all_eq_true] at h6
      obtain ⟨h10, h11, h12⟩ := h6
      refine ⟨by omega, fun d hdm => ?_⟩
      have h13 := h10 d hdm
      simp only [rightDefB, Bool.and_eq_true] at h13
      rcases needsB_len h13.1 with h14 | h14
      · rw [h14]; simp
      · omega
    · rw [if_neg hd] at h6
      have : dl.length = 0 := by simpa using h6
      have h0 : dl = [] := List.length_eq_zero_iff.1 this
      subst h0
      exact ⟨by simp, fun d hd => by cases hd⟩

theorem layG_no (id ver tm ty node m : Int) (nm : ByteArray) (A : Option Addr) (n c : Nat) (D : Option Addr) (dn dc : Nat) (w : World)
    (hR : ∀ w', Chg (fun _ => False) w w' → Calls Tryz.prog 28 #[.agg #[.int .i64 id, .int .i64 ver, .int .i64 tm, .int .i64 ty, .int .i64 node, .int .i64 m, .string nm, .slice A n c, .slice D dn dc]] w' fun e w'' => e = .returned (.bool false) ∧ Chg (fun _ => False) w' w'') :
    Calls Tryz.prog 22 #[.agg #[.int .i64 id, .int .i64 ver, .int .i64 tm, .int .i64 ty, .int .i64 node, .int .i64 m, .string nm, .slice A n c, .slice D dn dc]] w fun e w' => e = .returned (.tuple #[.slice none 0 0, .int .i64 1]) ∧ Chg (fun _ => False) w w' := by
  have hc0 : Chg (fun _ => False) w (w.alloc (.cells #[.int .i64 id, .int .i64 ver, .int .i64 tm, .int .i64 ty, .int .i64 node, .int .i64 m, .string nm, .slice A n c, .slice D dn dc] 32)) := (Chg.refl _ _).alloc _
  have hRR := hR _ hc0
  go_enter Tryz.func22, Tryz.ntmps22
  go_wp2_with (go_at_call 28; go_must (refine hRR.mono ?_; rintro e w1 ⟨rfl, hc1⟩))
  go_ret2
  exact ⟨rfl, hc0.trans hc1 (fun x hx => hx.elim)⟩

theorem layG_any (id ver tm ty node m : Int) (nm : ByteArray) (A : Option Addr) (n c : Nat) (bs : List Int) (D : Option Addr) (dn dc : Nat) (dl : List Df) (w : World) (hrd : Rd w A (bs.map (Value.int .u8))) (hn : bs.length = n) (hs : nm.size ≤ 140737488355328) (hD : RdDf w D dl) (hdn : dl.length = dn) (hdn2 : dn ≤ 17592186044416) (hns : ∀ d ∈ dl, d.ns.length ≤ 17592186044416) :
    Calls Tryz.prog 22 #[.agg #[.int .i64 id, .int .i64 ver, .int .i64 tm, .int .i64 ty, .int .i64 node, .int .i64 m, .string nm, .slice A n c, .slice D dn dc]] w fun e w' =>
      ((rightEB id ver tm ty node m nm n (dl.map Df.v) = true ∧ ∃ A' c', e = .returned (.tuple #[.slice A' (evGB id ver tm ty node m nm bs (dl.map Df.v)).length c', .int .i64 0]) ∧ w'.ownsRow w.heap.size 5 1 (.slice A' (evGB id ver tm ty node m nm bs (dl.map Df.v)).length c') (evGB id ver tm ty node m nm bs (dl.map Df.v)).length ((evGB id ver tm ty node m nm bs (dl.map Df.v)).map (Value.int .u8))) ∨
       (rightEB id ver tm ty node m nm n (dl.map Df.v) = false ∧ e = .returned (.tuple #[.slice none 0 0, .int .i64 1]))) ∧ Chg (fun _ => False) w w' := by
  have hR : ∀ w', Chg (fun _ => False) w w' → Calls Tryz.prog 28 #[.agg #[.int .i64 id, .int .i64 ver, .int .i64 tm, .int .i64 ty, .int .i64 node, .int .i64 m, .string nm, .slice A n c, .slice D dn dc]] w' fun e w'' => e = .returned (.bool (rightEB id ver tm ty node m nm n (dl.map Df.v))) ∧ Chg (fun _ => False) w' w'' :=
    fun w' hw => rightE_any id ver tm ty node m nm A n c D dn dc dl w' hs (hD.still hw) hdn hdn2 hns
  cases hb : rightEB id ver tm ty node m nm n (dl.map Df.v)
  · rw [hb] at hR
    exact (layG_no id ver tm ty node m nm A n c D dn dc w hR).mono fun e w' ⟨h1, h2⟩ => ⟨.inr ⟨rfl, h1⟩, h2⟩
  · rw [hb] at hR
    obtain ⟨k1, k2, k3, k4⟩ := rightEB_short hb
    exact (layG_yes id ver tm ty node m nm A n c bs D dn dc dl w hrd hn k2 k1 hD hdn (by rw [← hdn]; simpa using k3) (fun d hd => k4 d.v (List.mem_map_of_mem hd)) hR).mono fun e w' ⟨A', c', h1, h2, h3⟩ => ⟨.inl ⟨rfl, A', c', h1, h2⟩, h3⟩
end Go.Proofs.YtngfimjbgopgjaaGreatDoor
