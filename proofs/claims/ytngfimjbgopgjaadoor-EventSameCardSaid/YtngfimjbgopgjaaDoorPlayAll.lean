/- Play, RStep, in one text (merge.py). -/
import Derived.Test.YtngfimjbgopgjaaDoorStStep
import Derived.Test.YtngfimjbgopgjaaDoorEvOwnAll
import Derived.Test.YtngfimjbgopgjaaDoorHand
import Derived.Test.YtngfimjbgopgjaaDoorRawAll
/- Contracts of cutoverplay.More from nothing on, and of Branch: a line of events, a row of the call's own. -/
namespace Go.Proofs.YtngfimjbgopgjaaDoor
open Go.RowKit
set_option linter.unusedVariables false

/-! ### Raw steps in memory. -/
structure RStepIs (w : World) (A : Option Addr) (i : Nat) (x : RStepV) : Prop where
  at_ : ∃ b o, A = some ⟨b, o, none⟩ ∧ w.cell? ⟨b, o + i * 6, none⟩ = some (.int .i64 x.wh) ∧ w.cell? ⟨b, o + i * 6 + 1, none⟩ = some (.int .i64 x.a) ∧ w.cell? ⟨b, o + i * 6 + 2, none⟩ = some (.int .i64 x.b) ∧ w.cell? ⟨b, o + i * 6 + 3, none⟩ = some (.int .i64 x.c) ∧ w.cell? ⟨b, o + i * 6 + 4, none⟩ = some (.int .i64 x.v) ∧ w.cell? ⟨b, o + i * 6 + 5, none⟩ = some (.slice x.A x.n x.cp)
  ok : RStepOk w x
theorem RStepIs.still {w w' : World} {A : Option Addr} {i : Nat} {x : RStepV} (h : RStepIs w A i x) (hc : Chg (fun _ => False) w w') : RStepIs w' A i x := by
  obtain ⟨b, o, e, h0, h1, h2, h3, h4, h5⟩ := h.at_
  exact ⟨⟨b, o, e, hc.cell_some h0 (fun h => h), hc.cell_some h1 (fun h => h), hc.cell_some h2 (fun h => h), hc.cell_some h3 (fun h => h), hc.cell_some h4 (fun h => h), hc.cell_some h5 (fun h => h)⟩, h.ok.still hc⟩
def RSteps (w : World) (A : Option Addr) (n c : Nat) : Prop := n ≤ c ∧ c ≤ maxLen ∧ ∃ f : Nat → RStepV, ∀ i, i < n → RStepIs w A i (f i)
theorem RSteps.still {w w' : World} {A : Option Addr} {n c : Nat} (h : RSteps w A n c) (hc : Chg (fun _ => False) w w') : RSteps w' A n c := by
  obtain ⟨h1, h2, f, h3⟩ := h
  exact ⟨h1, h2, f, fun i hi => (h3 i hi).still hc⟩

theorem Yng.off {p : Nat} {f : EvF} {S : Nat → Prop} (h : Yng p f) (hS : ∀ x, S x → x ≤ p) : EvOff S f :=
  ⟨fun e x hx hs => by have := h.a e x hx; have := hS x hs; omega, fun e x hx hs => by have := h.d e x hx; have := hS x hs; omega, fun d hd e x hx hs => by have := h.n d hd e x hx; have := hS x hs; omega⟩
/-- What Branch gives: a line, a row of the call's own. -/
def LineGave (w : World) (e : Ending) (w' : World) : Prop :=
  ∃ (A : Option Addr) (c : Nat) (l : List EvF) (b : Int × Int × Int), e = .returned (.slice A l.length c) ∧ OwnL w w' A c l ∧ Chain (0, 0, 0) l b
theorem ver_some (was n : Int) (w : World) (h1 : 1 ≤ was) (h2 : was ≤ 2199023255552) : Calls Tryd.prog 27 #[.int .i64 was, .int .i64 n] w fun e w' => ∃ v : Int, e = .returned (.int .i64 v) ∧ was ≤ v ∧ v ≤ was + 14 ∧ w = w' :=
  (hVersion_any was n w h1 h2).mono fun e w' ⟨he, hw⟩ => ⟨_, he, by
    have h := iterG_bd (n % 3).toNat was
    unfold hverV
    exact h.1, by
    have h := iterG_bd (n % 3).toNat was
    unfold hverV
    omega, hw⟩

set_option maxHeartbeats 8000000 in
set_option maxRecDepth 20000 in
theorem more_any (T : Option Addr) (sn sc : Nat) (D : Option Addr) (dn dc : Nat) (w : World) (hS : RSteps w T sn sc) (hD : RawDs w D dn dc) (hN : NamesAt w 0) :
    Calls Tryd.prog 69 #[.slice none 0 0, .slice T sn sc, .slice D dn dc] w (LineGave w) := by
  obtain ⟨hs1, hs2, F, hs3⟩ := hS
  have HS3 := Lib.hid hs3
  have HD := Lib.hid hD
  have HN := Lib.hid hN
  have hw0 : 0 < w.heap.size := World.block_lt_of_cell? w _ hN.1
  have HW0 := Lib.hid hw0
  obtain ⟨i0, hi, hz0, hz1, hz2⟩ := info_parts evInfo
  have hmade : (w.alloc (.cells #[] 28)).ownsRow w.heap.size 28 9 (.slice (some ⟨w.heap.size, 0, none⟩) 0 0) 0 [] := World.ownsRow_made w #[] 0 (Nat.le_refl _) (by decide) rfl
  clear hs3 hD hN hw0
  go_enter Tryd.func69, Tryd.ntmps69
  go_wp2_with (at_builtin; refine wpList_append_rd _ rfl (.tmp 14) (.tmp 15) 44 rfl w.heap.size 28 i0 _ 9 112 Tryd.underlying44 hi hz0 hz1 hz2 rfl (by decide) _ 0 0 [] rfl hmade none 0 0 [] rfl rfl (Rd.nil _ _) (fun u hu => by cases hu) (by decide) (by decide) (by simp) ?_; intro A1 c1 w1 hown1 hg1 hb1; have hc1 := chg_made hg1; simp only [Nat.zero_add, List.nil_append] at hown1)
  go_loopw [7, 8, 9, 10, 11, 12, 13] (fun out v nw i _ _ _ w' => ∃ (j : Nat) (A : Option Addr) (c : Nat) (l : List EvF) (b : Int × Int × Int) (vv t : Int), out = .slice A l.length c ∧ v = .int .i64 vv ∧ nw = .int .i64 t ∧ i = .int .i64 j ∧ 1 ≤ vv ∧ vv ≤ 1 + 14 * (j : Int) ∧ j ≤ 30 ∧ OwnL w w' A c l ∧ Chain (0, 0, 0) l b) (fun _ _ _ i _ _ _ _ => 30 - (intOf i).toNat)
  case atStart => exact ⟨0, A1, c1, [], (0, 0, 0), 1, 0, rfl, rfl, rfl, rfl, by omega, by omega, by omega, ⟨hown1, (fun f hf => by cases hf), (fun f hf => by cases hf), hc1⟩, rfl⟩
  case round =>
    clear hown1 hg1 hb1 hc1 hmade
    obtain ⟨j, A, c, l, b, vv, t, rfl, rfl, rfl, rfl, hv1, hv2, hj, hL, hch⟩ := hrel
    have HL := Lib.hid hL
    have HCH := Lib.hid hch
    have hl2 := hch.good.1
    obtain ⟨ln, hln⟩ : ∃ ln, ln = l.length := ⟨_, rfl⟩
    have HLN := Lib.hid hln
    rw [← hln] at hl2 ⊢
    clear hL hch hln
    go_upto_region 8 with fail
    go_cut [46] from 34 to 45 (fun r w' => (∃ b' : Bool, r = .bool b' ∧ (b' = true → j < sn ∧ j < 30)) ∧ w' = wr)
    case first =>
      by_cases g1 : j < sn
      · have f1 : (j : Int) < (sn : Int) := by omega
        by_cases g2 : j < 30
        · have f2 : (j : Int) < 30 := by omega
          go_wp2_with fail
          all_goals
            go_meet
            exact ⟨⟨_, rfl, fun _ => ⟨g1, g2⟩⟩, rfl⟩
        · have f2 : ¬ (j : Int) < 30 := by omega
          go_wp2_with fail
          all_goals
            go_meet
            exact ⟨⟨_, rfl, fun h => by cases h⟩, rfl⟩
      · have f1 : ¬ (j : Int) < (sn : Int) := by omega
        go_wp2_with fail
        all_goals
          go_meet
          exact ⟨⟨_, rfl, fun h => by cases h⟩, rfl⟩
    obtain ⟨⟨b', rfl, hb'⟩, rfl⟩ := hcut
    cases b'
    · go_wp2_with fail
      go_ret
      exact ⟨A, c, l, b, by rw [HLN.out]; rfl, HL.out, HCH.out⟩
    obtain ⟨g1, g2⟩ := hb' rfl
    clear hb'
    have hsx := (HS3.out j g1).still HL.out.chg
    obtain ⟨x, hx⟩ : ∃ x, x = F j := ⟨_, rfl⟩
    rw [← hx] at hsx
    obtain ⟨b5, o5, rfl, q0, q1, q2, q3, q4, q5⟩ := hsx.at_
    have HOK := Lib.hid hsx.ok
    clear hsx hx
    have j0 : (0 : Int) ≤ (j : Int) := by omega
    have j1 : (j : Int) < (sn : Int) := by omega
    obtain ⟨w2, hw2⟩ : ∃ w2, w2 = wc.alloc (.cells #[.int .i64 x.wh, .int .i64 x.a, .int .i64 x.b, .int .i64 x.c, .int .i64 x.v, .slice x.A x.n x.cp] 108) := ⟨_, rfl⟩
    have bx : BoxAt w2 wc.heap.size 108 #[.int .i64 x.wh, .int .i64 x.a, .int .i64 x.b, .int .i64 x.c, .int .i64 x.v, .slice x.A x.n x.cp] := by rw [hw2]; exact BoxAt.new wc _ _
    have hc2 : Chg (fun _ => False) wc w2 := by rw [hw2]; exact (Chg.refl _ _).alloc _
    go_upto_region 11 with fail
    rw [← hw2]
    clear hw2 q0 q1 q2 q3 q4 q5
    obtain ⟨g, hg⟩ : ∃ g, g = wc.heap.size := ⟨_, rfl⟩
    rw [← hg] at bx ⊢
    clear hg
    have x3 : w2.cell? ⟨g, 3, none⟩ = some (.int .i64 x.c) := bx.cell 3 rfl
    have x4 : w2.cell? ⟨g, 4, none⟩ = some (.int .i64 x.v) := bx.cell 4 rfl
    have HL2 := Lib.hid (HL.out.still hc2)
    have hnp := fun (v n : Int) => newPen_any A c l v n w2 HL2.out.rd (by rw [← HLN.out]; omega)
    rw [← HLN.out] at hnp
    have HNP := Lib.hid hnp
    clear hnp
    go_upto_region 14 with (first
      | (go_at_call 88; (with_reducible refine (HNP.out _ _).mono ?_); rintro e w3 ⟨P, k, rfl, hc3, hk⟩; have HK := Lib.hid hk; clear hk)
      | (go_at_call 13; (with_reducible refine (pick_nat _ _ _ (by omega) (by omega)).mono ?_); rintro e w' ⟨r9, hr9, rfl, rfl⟩)
      | (go_at_call 27; (with_reducible refine (ver_some vv _ _ hv1 (by omega)).mono ?_); rintro e w' ⟨v2, rfl, hva, hvb, rfl⟩))
    clear x3 x4
    by_cases hk0 : k = 0
    rotate_left
    · have f1 : (k != 0) = true := by simpa using hk0
      have f2 : decide (k = 0) = false := by simpa using hk0
      clear hk0
      go_wp2_with fail
      go_ret
      exact ⟨A, c, l, b, by rw [HLN.out]; rfl, HL2.out.still hc3, HCH.out⟩
    subst hk0
    obtain ⟨p, b2, rfl, hpw, ⟨out, s, v3, n3, hP⟩, hch2⟩ := HK.out rfl
    have hL3 := HL2.out.still hc3
    have hpA : ∀ x, In A x → x < p := fun x hx => Nat.lt_of_lt_of_le (own_lt HL2.out.own hx).2 hpw
    have hcw := hL3.chg
    have bx3 := bx.keep hc3 (fun h => h)
    have hst := step_any p b2 out s v3 n3 x D dn dc w3 hP (HOK.out.still (hc2.trans hc3 (fun x hx => hx.elim))) (HD.out.still hcw) (HN.out.keep hcw (fun h => h)) (by have h1 := HW0.out; have h2 := HL2.out.chg.size; omega)
    unfold RStepV.val RStepV.row at hst
    have HST := Lib.hid hst
    have HL3 := Lib.hid hL3
    have HCH2 := Lib.hid hch2
    have z0 : w3.cell? ⟨g, 0, none⟩ = some (.int .i64 x.wh) := bx3.cell 0 rfl
    have z1 : w3.cell? ⟨g, 1, none⟩ = some (.int .i64 x.a) := bx3.cell 1 rfl
    have z2 : w3.cell? ⟨g, 2, none⟩ = some (.int .i64 x.b) := bx3.cell 2 rfl
    have z3 : w3.cell? ⟨g, 3, none⟩ = some (.int .i64 x.c) := bx3.cell 3 rfl
    have z4 : w3.cell? ⟨g, 4, none⟩ = some (.int .i64 x.v) := bx3.cell 4 rfl
    have z5 : w3.cell? ⟨g, 5, none⟩ = some (.slice x.A x.n x.cp) := bx3.cell 5 rfl
    clear hP hst hL3 hch2 HK
    go_upto_region 17 with (go_at_call 89; (with_reducible refine HST.out.mono ?_); rintro e w4 ⟨⟨rv, rfl⟩, o', s', hP4, hc4⟩; have HP4 := Lib.hid hP4; clear hP4)
    clear z0 z1 z2 z3 z4 z5
    obtain ⟨O, oc, hb4, hro⟩ := HP4.out.ex
    unfold penRow at hb4
    have r11 : w4.cell? ⟨p, 11, none⟩ = some (.slice O o'.length oc) := hb4.cell 11 rfl
    have hrd := hro w4 (Chg.refl _ _)
    have hlo : o'.length ≤ 200 := by
      have h1 := HP4.out.ch.len
      have h2 := HP4.out.id2
      have h3 := HP4.out.b0
      simp only at h1
      omega
    have hL4 := HL2.out.still (hc3.trans hc4 (fun x hx => .inr (by rw [hx]; exact hpw)))
    have HL4 := Lib.hid hL4
    have hown4 : w4.ownsRow w.heap.size 28 9 (.slice A ln c) ln (eoC l) := by
      rw [HLN.out]
      exact hL4.own
    have HRD := Lib.hid hrd
    have HRO := Lib.hid hro
    have hm1 : ln + o'.length ≤ maxLen := by simp only [maxLen]; omega
    have hm2 : (ln + o'.length) * 112 ≤ 140737488355328 := by omega
    have hsz : w.heap.size ≤ w4.heap.size := Nat.le_trans HL3.out.chg.size hc4.size
    have hpw2 := hpw
    clear hb4 hro hrd hL4
    go_wp2_with (at_builtin; refine wpList_append_rd _ rfl (.tmp 81) (.tmp 85) 44 rfl w.heap.size 28 i0 _ 9 112 Tryd.underlying44 hi hz0 hz1 hz2 rfl (by decide) A ln c (eoC l) rfl hown4 O o'.length oc (eoC o') rfl (eoC_len _) HRD.out.rd (eoC_one _) hm1 hm2 hsz ?_; intro A5 c5 w5 hown5 hg5 hb5)
    go_roundw
    case rel =>
      refine ⟨j + 1, A5, c5, l ++ o', (s'.id, s'.ver, s'.tm), v2, _, ?_, rfl, rfl, by go_num, by omega, by omega, by omega, ?_, ?_⟩
      · rw [HLN.out, List.length_append]
      · refine HL4.out.app HRD.out.ev (fun f hf => (HP4.out.yo f hf).off (fun x hx => Nat.le_of_lt (hpA x hx))) ?_ hg5 hb5
        rw [← HLN.out]
        exact hown5
      · exact HCH2.out.app HP4.out.ch
    case measure => simp [intOf]; omega

theorem branch_any (T : Option Addr) (sn sc : Nat) (D : Option Addr) (dn dc : Nat) (w : World) (hS : RSteps w T sn sc) (hD : RawDs w D dn dc) (hN : NamesAt w 0) :
    Calls Tryd.prog 19 #[.slice T sn sc, .slice D dn dc] w (LineGave w) := by
  have hm := more_any T sn sc D dn dc w hS hD hN
  go_enter Tryd.func19, Tryd.ntmps19
  go_wp2_with (go_at_call 69; (with_reducible refine hm.mono ?_); rintro e w2 ⟨A, c, l, b, rfl, hL, hch⟩)
  go_ret
  exact ⟨A, c, l, b, rfl, hL, hch⟩
end Go.Proofs.YtngfimjbgopgjaaDoor

/- []RawStep and []RawDef as arguments, in the walk's words. -/
namespace Go.Proofs.YtngfimjbgopgjaaDoor
open Go.ChangeShapes Go.WideShapes Go.ChangeAt Go.RowKit Go.Deep
set_option linter.unusedVariables false

instance : Inhabited RStepV := ⟨⟨0, 0, 0, 0, 0, none, 0, 0, []⟩⟩
theorem cells_rstep : Tryd.prog.cellsOf 108 = 6 := by kernel_rfl
theorem len6r {α : Type} {l : List α} (h : l.length = 6) : ∃ a0 a1 a2 a3 a4 a5, l = [a0, a1, a2, a3, a4, a5] := by
  match l, h with
  | [a0, a1, a2, a3, a4, a5], _ => exact ⟨a0, a1, a2, a3, a4, a5, rfl⟩

section
variable {H : Type} {enc : TypeId × Value → H} {W : World}
theorem open_RDs {A : Option Addr} {n c : Nat} {d : DataW H} {p : List MemPlace} (h : DataW.Trod enc Tryd.prog W 0 (fun _ => true) true 23 (.slice A n c) d p) (hw : ∀ m ∈ d.weights Tryd.prog 23, m ≤ reachBytes) : RawDs W A n c := by
  obtain ⟨fuel, hf⟩ := h
  have hf' : DataW.trod enc Tryd.prog W 0 (fun _ => true) true fuel 23 [.slice A n c] = some (d, p) := by simpa [Value.cells] using hf
  obtain ⟨A', n', c', e, h⟩ := open_RawDs hf' hw
  simp only [List.cons.injEq, Value.slice.injEq, and_true] at e
  obtain ⟨rfl, rfl, rfl⟩ := e
  exact h
set_option maxRecDepth 20000 in
theorem open_RSteps {A : Option Addr} {n c : Nat} {d : DataW H} {p : List MemPlace} (h : DataW.Trod enc Tryd.prog W 0 (fun _ => true) true 43 (.slice A n c) d p) (hw : ∀ m ∈ d.weights Tryd.prog 43, m ≤ reachBytes) : RSteps W A n c := by
  obtain ⟨fuel, hf⟩ := h
  have hf' : DataW.trod enc Tryd.prog W 0 (fun _ => true) true fuel 43 [.slice A n c] = some (d, p) := by simpa [Value.cells] using hf
  obtain ⟨h1, h2, f, h3⟩ := open_elems_w (α := RStepV) Tryd.underlying43 cells_rstep (by omega) hf'
    (fun cs d v => (∀ m ∈ d.weights Tryd.prog 108, m ≤ reachBytes) → cs = [.int .i64 v.wh, .int .i64 v.a, .int .i64 v.b, .int .i64 v.c, .int .i64 v.v, .slice v.A v.n v.cp] ∧ v.bs.length = v.n ∧ v.n ≤ v.cp ∧ v.n ≤ 140737488351232 ∧ Rd W v.A (v.bs.map (Value.int .u8)) ∧ ∀ z ∈ v.bs, 0 ≤ z ∧ z ≤ 255) (by
      intro m cs y hy
      obtain ⟨dy, py⟩ := y
      obtain ⟨xs, k, _, hx, hl, hlen, hg⟩ := DataW.trod_struct Tryd.underlying108 hy
      obtain ⟨y0, y1, y2, y3, y4, y5, rfl⟩ := len6r (l := xs) hlen
      simp only [Prod.mk.injEq] at hx
      obtain ⟨hd, _⟩ := hx
      rw [cells_rstep] at hl
      obtain ⟨c0, c1, c2, c3, c4, c5, rfl⟩ := len6r hl
      have g0 := hg 0 _ rfl
      have g1 := hg 1 _ rfl
      have g2 := hg 2 _ rfl
      have g3 := hg 3 _ rfl
      have g4 := hg 4 _ rfl
      have g5 := hg 5 _ rfl
      simp [cells_int, cells_bytes] at g0 g1 g2 g3 g4 g5
      obtain ⟨z0, e0, _, _⟩ := DataW.trod_int Tryd.underlying3 g0
      obtain ⟨z1, e1, _, _⟩ := DataW.trod_int Tryd.underlying3 g1
      obtain ⟨z2, e2, _, _⟩ := DataW.trod_int Tryd.underlying3 g2
      obtain ⟨z3, e3, _, _⟩ := DataW.trod_int Tryd.underlying3 g3
      obtain ⟨z4, e4, _, _⟩ := DataW.trod_int Tryd.underlying3 g4
      simp only [List.cons.injEq, and_true] at e0 e1 e2 e3 e4
      subst e0 e1 e2 e3 e4
      subst hd
      obtain ⟨B, bn, bc, e5⟩ := Joins.slice_form Tryd.underlying22 g5
      simp only [List.cons.injEq, and_true] at e5
      subst e5
      by_cases hwt : ∀ m ∈ (DataW.agg [y0.1, y1.1, y2.1, y3.1, y4.1, y5.1]).weights Tryd.prog 108, m ≤ reachBytes
      · obtain ⟨B', bn', bc', bs, e, k1, k2, k3, k4, k5⟩ := open_by_w g5 (fun q hq => hwt q (by
          simp only [DataW.weights, Tryd.underlying108]
          exact DataW.weights_mem_each (j := 5) (t := 22) (d := y5.1) rfl rfl q hq))
        simp only [List.cons.injEq, Value.slice.injEq, and_true] at e
        obtain ⟨rfl, rfl, rfl⟩ := e
        exact ⟨⟨z0, z1, z2, z3, z4, B, bn, bc, bs⟩, fun _ => ⟨rfl, k1, k2, k3, k4, k5⟩⟩
      · exact ⟨default, fun h => absurd h hwt⟩)
  refine ⟨h1, h2, f, fun i hi => ?_⟩
  obtain ⟨b, o, cs, d', e, _, hc, hq, hd⟩ := h3 i hi
  obtain ⟨rfl, k1, k2, k3, k4, k5⟩ := hq (fun m hm => hw m (hd m hm))
  exact ⟨⟨b, o, e, by simpa using hc 0 _ rfl, hc 1 _ rfl, hc 2 _ rfl, hc 3 _ rfl, hc 4 _ rfl, hc 5 _ rfl⟩, ⟨k1, k2, k3, k4, k5⟩⟩
end
end Go.Proofs.YtngfimjbgopgjaaDoor
