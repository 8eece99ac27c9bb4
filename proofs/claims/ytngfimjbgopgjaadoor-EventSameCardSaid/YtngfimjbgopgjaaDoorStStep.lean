/- Contract of cutoverplay.step (gen_step.py): a Pen stands behind it. -/
import Derived.Test.YtngfimjbgopgjaaDoorStOpsAll
import Derived.Test.YtngfimjbgopgjaaDoorHDefs
import Derived.Test.YtngfimjbgopgjaaDoorHName
namespace Go.Proofs.YtngfimjbgopgjaaDoor
open Go.RowKit
set_option linter.unusedVariables false

/-! Operations of drawn regions, under names: so the walk branches over them in silence. -/
def catStr : Oper := { dst := some 114, op := .binOp .add 9 (.tmp 110) (.tmp 113) 9, type := 9, pos := "play.go:66", after := #[{ on := 3, ground := .data }, { on := 6, ground := .data }], guard := none }
@[simp] theorem catStr_dst : catStr.dst = some 114 := rfl
@[simp] theorem catStr_op : catStr.op = .binOp .add 9 (.tmp 110) (.tmp 113) 9 := rfl
@[simp] theorem catStr_type : catStr.type = 9 := rfl
@[simp] theorem catStr_guard : catStr.guard = none := rfl
theorem catStr_eq : ({ dst := some 114, op := .binOp .add 9 (.tmp 110) (.tmp 113) 9, type := 9, pos := "play.go:66", after := #[{ on := 3, ground := .data }, { on := 6, ground := .data }], guard := none } : Oper) = catStr := rfl
def nodLoad : Oper := { dst := some 76, op := .load 113 (.tmp 75), type := 113, pos := "play.go:58", after := #[{ on := 5, ground := .data }], guard := none }
@[simp] theorem nodLoad_dst : nodLoad.dst = some 76 := rfl
@[simp] theorem nodLoad_op : nodLoad.op = .load 113 (.tmp 75) := rfl
@[simp] theorem nodLoad_type : nodLoad.type = 113 := rfl
@[simp] theorem nodLoad_guard : nodLoad.guard = none := rfl
theorem nodLoad_eq : ({ dst := some 76, op := .load 113 (.tmp 75), type := 113, pos := "play.go:58", after := #[{ on := 5, ground := .data }], guard := none } : Oper) = nodLoad := rfl
def nodAt : Oper := { dst := some 78, op := .indexAddr 113 (.tmp 76) (.tmp 77), type := 0, pos := "play.go:58", after := #[{ on := 6, ground := .data }, { on := 7, ground := .data }], guard := none }
@[simp] theorem nodAt_dst : nodAt.dst = some 78 := rfl
@[simp] theorem nodAt_op : nodAt.op = .indexAddr 113 (.tmp 76) (.tmp 77) := rfl
@[simp] theorem nodAt_type : nodAt.type = 0 := rfl
@[simp] theorem nodAt_guard : nodAt.guard = none := rfl
theorem nodAt_eq : ({ dst := some 78, op := .indexAddr 113 (.tmp 76) (.tmp 77), type := 0, pos := "play.go:58", after := #[{ on := 6, ground := .data }, { on := 7, ground := .data }], guard := none } : Oper) = nodAt := rfl
def triAt : Oper := { dst := some 79, op := .fieldAddr 127 (.tmp 78) 1, type := 0, pos := "play.go:58", after := #[{ on := 8, ground := .data }], guard := none }
@[simp] theorem triAt_dst : triAt.dst = some 79 := rfl
@[simp] theorem triAt_op : triAt.op = .fieldAddr 127 (.tmp 78) 1 := rfl
@[simp] theorem triAt_type : triAt.type = 0 := rfl
@[simp] theorem triAt_guard : triAt.guard = none := rfl
theorem triAt_eq : ({ dst := some 79, op := .fieldAddr 127 (.tmp 78) 1, type := 0, pos := "play.go:58", after := #[{ on := 8, ground := .data }], guard := none } : Oper) = triAt := rfl
def triLoad : Oper := { dst := some 80, op := .load 3 (.tmp 79), type := 3, pos := "play.go:58", after := #[{ on := 9, ground := .data }], guard := none }
@[simp] theorem triLoad_dst : triLoad.dst = some 80 := rfl
@[simp] theorem triLoad_op : triLoad.op = .load 3 (.tmp 79) := rfl
@[simp] theorem triLoad_type : triLoad.type = 3 := rfl
@[simp] theorem triLoad_guard : triLoad.guard = none := rfl
theorem triLoad_eq : ({ dst := some 80, op := .load 3 (.tmp 79), type := 3, pos := "play.go:58", after := #[{ on := 9, ground := .data }], guard := none } : Oper) = triLoad := rfl

/-- A raw step. -/
structure RStepV where
  wh : Int
  a : Int
  b : Int
  c : Int
  v : Int
  A : Option Addr
  n : Nat
  cp : Nat
  bs : List Int
def RStepV.row (x : RStepV) : Array Value := #[.int .i64 x.wh, .int .i64 x.a, .int .i64 x.b, .int .i64 x.c, .int .i64 x.v, .slice x.A x.n x.cp]
def RStepV.val (x : RStepV) : Value := .agg x.row
structure RStepOk (w : World) (x : RStepV) : Prop where
  len : x.bs.length = x.n
  cap : x.n ≤ x.cp
  most : x.n ≤ 140737488351232
  rd : Rd w x.A (x.bs.map (Value.int .u8))
  byt : ∀ z ∈ x.bs, 0 ≤ z ∧ z ≤ 255
theorem RStepOk.still {w w' : World} {x : RStepV} (h : RStepOk w x) (hc : Chg (fun _ => False) w w') : RStepOk w' x := ⟨h.len, h.cap, h.most, h.rd.keep hc (fun _ _ h => h), h.byt⟩

set_option maxHeartbeats 8000000 in
set_option maxRecDepth 20000 in
theorem step_any (p : Nat) (b : Int × Int × Int) (out : List EvF) (s : StV) (v n : Int) (x : RStepV) (D : Option Addr) (dn dc : Nat) (w : World) (h : PenS w p b out s v n) (hx : RStepOk w x) (hD : RawDs w D dn dc) (hN : NamesAt w 0) (hp0 : p ≠ 0) :
    Calls Tryd.prog 89 #[.pointer (some ⟨p, 0, none⟩), x.val, .slice D dn dc] w (Stepped p b v n w) := by
  obtain ⟨O, oc, hbx, _⟩ := h.ex
  have hpl := h.lt
  unfold penRow at hbx
  unfold RStepV.val RStepV.row
  obtain ⟨w1, hw1⟩ : ∃ w1, w1 = w.alloc (.cells #[.int .i64 x.wh, .int .i64 x.a, .int .i64 x.b, .int .i64 x.c, .int .i64 x.v, .slice x.A x.n x.cp] 108) := ⟨_, rfl⟩
  have bx : BoxAt w1 w.heap.size 108 #[.int .i64 x.wh, .int .i64 x.a, .int .i64 x.b, .int .i64 x.c, .int .i64 x.v, .slice x.A x.n x.cp] := by rw [hw1]; exact BoxAt.new w _ _
  have hc1 : Chg (fun _ => False) w w1 := by rw [hw1]; exact (Chg.refl _ _).alloc _
  have hp1 := h.keep hc1
  have hbx1 := hbx.keep hc1 (fun h => h)
  have hx1 := hx.still hc1
  have hD1 := hD.still hc1
  have hN1 := hN.keep hc1 (fun h => h)
  have HDD := Lib.hid hD1
  have HNN := Lib.hid hN1
  have HX := Lib.hid hx1
  have HP := Lib.hid hp1
  have q0 : w1.cell? ⟨p, 0, none⟩ = some (.int .i64 s.id) := hbx1.cell 0 rfl
  clear hx hD hN h hp1 hx1 hD1 hN1 hbx
  go_enter Tryd.func89, Tryd.ntmps89
  go_upto_region 1 with fail
  rw [← hw1]
  clear hw1
  obtain ⟨g, hg⟩ : ∃ g, g = w.heap.size := ⟨_, rfl⟩
  rw [← hg] at bx ⊢
  have HG := Lib.hid hg
  clear hg
  obtain ⟨sid, hsid⟩ : ∃ sid, sid = s.id := ⟨_, rfl⟩
  rw [← hsid] at q0
  clear hsid
  by_cases hid : sid = 0
  · have f1 : (sid == 0) = true := by simpa using hid
    have f2 : decide (sid = 0) = true := by simpa using hid
    clear hid
    have hdf := hDefs_any D dn dc 7 w1 HDD.out
    have hst := fun (E : Option Addr) (ec : Nat) (dl : List Df) (w' : World) (hc : Chg (fun _ => False) w1 w') => start_any p b out s v n E ec dl w' (HP.out.keep hc)
    have HST0 := Lib.hid hst
    clear hst
    go_wp2_with (first
      | (go_at_call 91; (with_reducible refine (HST0.out E ec dl w2 hc2 HE.out (by omega) (fun d hd => (HDN.out d hd).1) HDY.out).mono ?_); (rintro e w3 ⟨⟨rv, rfl⟩, hst⟩; have HST := Lib.hid hst; clear hst))
      | (go_at_call 28; (with_reducible refine hdf.mono ?_); (rintro e w2 ⟨E, en, ec, dl, rfl, hR, hdl, hdn, hns, hDo, hc2⟩; subst hdl; have HDN := Lib.hid hns; have HDY := Lib.hid (⟨fun _ x hx => by have h1 := hDo x hx; have h2 := hc1.size; omega, fun d hd _ x hx => by have h1 := (hns d hd).2 x hx; have h2 := hc1.size; omega⟩ : (dl ≠ [] → ∀ x, In E x → p < x) ∧ ∀ d ∈ dl, d.ns ≠ [] → ∀ x, In d.A x → p < x); have HE := Lib.hid (fun (u : World) (hu : Chg (· = p) w2 u) => (hR.keep hu (fun _ x hx e => by have e' : x = p := e; have h1 := hDo x hx; have h2 := hc1.size; omega) (fun d hd _ x hx e => by have e' : x = p := e; have h1 := (hns d hd).2 x hx; have h2 := hc1.size; omega) : RdDf u E dl)); clear hR hns hDo)))
    refine bodyPost_ret (results_none rfl _ _ _) rfl ?_
    obtain ⟨o', s', h1, h2⟩ := HST.out
    exact ⟨⟨_, rfl⟩, o', s', h1, ((hc1.trans hc2 (fun x hx => hx.elim)).mono (fun x h => h.elim)).trans h2 (fun x hx => .inl hx)⟩
  have f1 : (sid == 0) = false := by simpa using hid
  have f2 : decide (sid = 0) = false := by simpa using hid
  clear hid
  have x0 : w1.cell? ⟨g, 0, none⟩ = some (.int .i64 x.wh) := bx.cell 0 rfl
  go_upto_block 0 with (go_at_call 13; go_must (refine (pick_nat _ _ _ (by omega) (by omega)).mono ?_; rintro e w' ⟨r, hr, rfl, rfl⟩))
  clear q0 x0 f1 f2
  rcases (by omega : (r ≤ 4) ∨ (5 ≤ r ∧ r ≤ 8) ∨ r = 9 ∨ (10 ≤ r ∧ r ≤ 12) ∨ (r = 13 ∨ r = 14) ∨ r = 15) with hr1 | hr1 | hr1 | hr1 | hr1 | hr1
  · have hb := begin_any p b out s v n w1 HP.out
    rcases (by omega : r = 0 ∨ r = 1 ∨ r = 2 ∨ r = 3 ∨ r = 4) with rfl | rfl | rfl | rfl | rfl
    all_goals
      go_wp2_with (go_at_call 92; (with_reducible refine hb.mono ?_); rintro e w2 ⟨⟨rv, rfl⟩, hst⟩; have HST := Lib.hid hst; clear hst)
      go_end0
      obtain ⟨o', s', h1, h2⟩ := HST.out
      exact ⟨⟨_, rfl⟩, o', s', h1, (hc1.mono (fun x h => h.elim)).trans h2 (fun x hx => .inl hx)⟩
  · have hfi := fun (j : Nat) (m : Int) (ok : Bool) (A : Option Addr) (c : Nat) (bs : List Int) (w' : World) (hc : Chg (fun _ => False) w1 w') => finish_any p b out s v n j m ok A c bs w' (HP.out.keep hc)
    have HFI := Lib.hid hfi
    have hst := HP.out.st w1 (Chg.refl _ _)
    have h8 : s.nl.length ≤ 8 := by rw [← hst.dn]; exact hst.d8
    have hgp : ¬ g = p := by have := HG.out; omega
    have hpw1 : p < w1.heap.size := Nat.lt_of_lt_of_le hpl hc1.size
    obtain ⟨O1, oc1, hb1, _⟩ := HP.out.ex
    unfold penRow at hb1
    have HB1 := Lib.hid hb1
    have HST := Lib.hid hst
    have HSU := Lib.hid (fun (u : World) (hu : Chg (· = p) w1 u) => HP.out.st u hu)
    have hS : ∀ w', Chg (· = p) w1 w' → w'.cell? ⟨g, 1, none⟩ = some (.int .i64 x.a) ∧ w'.cell? ⟨g, 5, none⟩ = some (.slice x.A x.n x.cp) := fun w' hw => ⟨(bx.keep hw hgp).cell 1 rfl, (bx.keep hw hgp).cell 5 rfl⟩
    have HS := Lib.hid hS
    clear hfi hst hb1 hS
    rcases (by omega : r = 5 ∨ r = 6 ∨ r = 7 ∨ r = 8) with rfl | rfl | rfl | rfl
    all_goals
      clear hr hr1
      go_wp2_with fail
      go_loopw [6, 7] (fun i _ w' => ∃ j : Nat, i = .int .i64 j ∧ j ≤ s.nl.length ∧ Chg (fun _ => False) w1 w') (fun i _ _ => s.nl.length - (intOf i).toNat)
      case atStart => exact ⟨0, rfl, Nat.zero_le _, Chg.refl _ _⟩
      case round =>
        obtain ⟨j, rfl, hj, hcr⟩ := hrel
        have q6 : wr.cell? ⟨p, 6, none⟩ = some (.slice s.N s.nl.length s.nc) := (HB1.out.keep hcr (fun h => h)).cell 6 rfl
        by_cases hjn : j < s.nl.length
        · have j0 : (0 : Int) ≤ (j : Int) := by omega
          have j1 : (j : Int) < (s.nl.length : Int) := by omega
          obtain ⟨b5, o5, hN, _⟩ := HST.out.nd.at_ (k := 0) (by rw [ndC_len]; omega)
          have hnd : ∀ u, Chg (· = p) w1 u → u.cell? ⟨b5, o5 + j * 4, none⟩ = some (.int .i64 s.nl[j].st) ∧ u.cell? ⟨b5, o5 + j * 4 + 1, none⟩ = some (.int .i64 s.nl[j].tr) := fun u hu => by
            have h1 := (HSU.out u hu).nd.cells hN
            exact ⟨h1 _ _ (ndC_get s.nl j hjn).1, by rw [Nat.add_assoc]; exact h1 _ _ (ndC_get s.nl j hjn).2.1⟩
          obtain ⟨st, hst⟩ : ∃ st, st = s.nl[j].st := ⟨_, rfl⟩
          obtain ⟨tr, htr⟩ : ∃ tr, tr = s.nl[j].tr := ⟨_, rfl⟩
          rw [← hst, ← htr] at hnd
          have HND := Lib.hid hnd
          rw [hN] at q6
          clear hnd hst htr
          have hcrp : Chg (· = p) w1 wr := hcr.mono (fun x h => h.elim)
          have c0 := (HND.out wr hcrp).1
          by_cases hs1 : st = 1
          · subst hs1
            have x1 : wr.cell? ⟨g, 1, none⟩ = some (.int .i64 x.a) := (HS.out wr hcrp).1
            go_upto_region 23 with fail
            go_cut [69] from 46 to 68 (fun r w' => (∃ b' : Bool, r = .bool b') ∧ w' = wr)
            case first =>
              go_wp2_with fail
              go_meet
              exact ⟨⟨_, rfl⟩, rfl⟩
            obtain ⟨⟨b', rfl⟩, rfl⟩ := hcut
            go_upto_if 69 with fail
            go_cut [7] from 70 to 70 (fun m w' => ∃ k : Nat, k ≤ 40 ∧ m = .int .i64 k ∧ w' = wc)
            case first =>
              cases b'
              · go_wp2_with fail
                go_meet
                exact ⟨0, by omega, rfl, rfl⟩
              · go_wp2_with fail
                go_meet
                exact ⟨40, by omega, rfl, rfl⟩
            obtain ⟨k, hk, rfl, rfl⟩ := hcut
            obtain ⟨ys, hys⟩ : ∃ ys, ys = x.bs.take k := ⟨_, rfl⟩
            have hyl : ys.length ≤ 1000 := by rw [hys, List.length_take]; omega
            have hyb : ∀ z ∈ ys, 0 ≤ z ∧ z ≤ 255 := fun z hz => HX.out.byt z (by rw [hys] at hz; exact List.mem_of_mem_take hz)
            have hF := few_any x.A x.cp x.n k x.bs wc.drew ((HX.out.rd.keep hcr (fun _ _ h => h)).drew) HX.out.len (by have := HX.out.most; omega) HX.out.cap (by omega)
            rw [← hys] at hF
            have HF := Lib.hid hF
            have HYB := Lib.hid hyb
            have HJ := Lib.hid hjn
            clear hys hF hyb c0 x1
            have k0 : Chg (fun _ => False) w1 wc.drew := hcr.drew
            have kp : Chg (· = p) w1 wc.drew := hcrp.drew
            have k00 : Chg (fun _ => False) wc wc.drew := (Chg.refl _ _).drew
            go_upto_region 25 with fail
            rw [nodLoad_eq, nodAt_eq, triAt_eq, triLoad_eq]
            go_region_held3 (fun w' => w'.cell? ⟨g, 1, none⟩ = some (.int .i64 x.a) ∧ w'.cell? ⟨g, 5, none⟩ = some (.slice x.A x.n x.cp) ∧ w'.cell? ⟨b5, o5 + j * 4 + 1, none⟩ = some (.int .i64 tr)) (first | with_reducible exact ⟨(HS.out _ k2).1, (HS.out _ k2).2, (HND.out _ k2).2⟩ | with_reducible exact ⟨(HS.out _ kp4).1, (HS.out _ kp4).2, (HND.out _ kp4).2⟩ | with_reducible exact ⟨(HS.out _ kp).1, (HS.out _ kp).2, (HND.out _ kp).2⟩) (first
              | (go_at_call 93; (with_reducible refine (HFI.out j _ _ F fc ys _ k4 HJ.out hyl HYB.out HFO.out HFY.out).mono ?_); rintro e w2 ⟨⟨rv, rfl⟩, o', s', h1, h2⟩; have k2 : Chg (· = p) w1 w2 := kp4.trans h2 (fun x hx => .inl hx); have H1 := Lib.hid h1; clear h1)
              | (go_at_call 12; (with_reducible refine HF.out.mono ?_); rintro e w4 ⟨F, fc, rfl, ho, hc4⟩; have k4 := k0.trans hc4 (fun x hx => hx.elim); have kp4 := k4.mono (T := (· = p)) (fun x h => h.elim); have q64 := (k00.trans hc4 (fun x hx => hx.elim)).cell_some q6 (fun h => h); have HFO := Lib.hid (fun (u : World) (hu : Chg (· = p) w4 u) => (Rd.of_own ho).keep hu (fun x hx e => by have e' : x = p := e; have h1 : wc.heap.size ≤ x := (own_lt ho hx).1; have h2 := hcr.size; omega)); have HFY := Lib.hid (fun (_ : ys ≠ []) (x : Nat) (hx : In F x) => (Nat.lt_of_lt_of_le (Nat.lt_of_lt_of_le hpw1 hcr.size) (own_lt ho hx).1 : p < x)))
              | fail)
            all_goals
              go_wp2_with fail
              (try simp only [Exit.inBlock, Exit.then])
              refine bodyPost_ret (results_none rfl _ _ _) rfl ?_
              exact ⟨⟨_, rfl⟩, o', s', H1.out, (hc1.mono (fun x h => h.elim)).trans k2 (fun x hx => .inl hx)⟩
          · have f1 : (st == 1) = false := by simpa using hs1
            have f2 : decide (st = 1) = false := by simpa using hs1
            have HS1 := Lib.hid hs1
            clear hs1
            go_wp2_with fail
            go_roundw
            case rel => exact ⟨j + 1, by go_num, hjn, hcr⟩
            case measure => simp [intOf]; omega
        · have j1 : ¬ (j : Int) < (s.nl.length : Int) := by omega
          have hb := begin_any p b out s v n wr (HP.out.keep hcr)
          go_wp2_with (go_at_call 92; (with_reducible refine hb.mono ?_); rintro e w2 ⟨⟨rv, rfl⟩, hst⟩; have HST := Lib.hid hst; clear hst)
          go_end0
          obtain ⟨o', s', h1, h2⟩ := HST.out
          exact ⟨⟨_, rfl⟩, o', s', h1, ((hc1.trans hcr (fun x hx => hx.elim)).mono (fun x h => h.elim)).trans h2 (fun x hx => .inl hx)⟩
  · subst hr1
    have hba := fun (nm : ByteArray) (m : Int) (w' : World) (hc : Chg (fun _ => False) w1 w') (hnm : nm.size ≤ 5) => arm_any p b out s v n nm m w' (HP.out.keep hc) (by omega)
    have HBA := Lib.hid hba
    have hgp : ¬ g = p := by have := HG.out; omega
    have hS : ∀ w', Chg (· = p) w1 w' → w'.cell? ⟨g, 1, none⟩ = some (.int .i64 x.a) ∧ w'.cell? ⟨g, 2, none⟩ = some (.int .i64 x.b) := fun w' hw => ⟨(bx.keep hw hgp).cell 1 rfl, (bx.keep hw hgp).cell 2 rfl⟩
    have HS := Lib.hid hS
    have k0 : Chg (fun _ => False) w1 w1.drew := (Chg.refl _ _).drew
    have kp : Chg (· = p) w1 w1.drew := (Chg.refl _ _).drew
    clear hba hS
    go_upto_region 28 with fail
    go_region_held3 (fun w' => w'.cell? ⟨g, 1, none⟩ = some (.int .i64 x.a) ∧ w'.cell? ⟨g, 2, none⟩ = some (.int .i64 x.b)) (first | with_reducible exact HS.out _ k2 | with_reducible exact HS.out _ kp) (first
      | (go_at_call 94; (with_reducible refine (HBA.out nm _ _ k0 hnm).mono ?_); rintro e w2 ⟨⟨rv, rfl⟩, o', s', h1, h2⟩; have k2 : Chg (· = p) w1 w2 := kp.trans h2 (fun x hx => .inl hx); have H1 := Lib.hid h1; clear h1)
      | (go_at_call 29; (with_reducible refine (hName_any _ _ (HNN.out.keep k0 (fun h => h))).mono ?_); rintro e w' ⟨⟨nm, rfl, hnm⟩, rfl⟩)
      | (go_at_call 13; (with_reducible refine (pick_nat _ _ _ (by omega) (by omega)).mono ?_); rintro e w' ⟨r9, hr9, rfl, rfl⟩)
      | fail)
    all_goals
      go_wp2_with fail
      go_end0
      exact ⟨⟨_, rfl⟩, o', s', H1.out, (hc1.mono (fun x h => h.elim)).trans k2 (fun x hx => .inl hx)⟩
  · have hba := fun (nm : ByteArray) (A : Option Addr) (c : Nat) (bs : List Int) (w' : World) (hc : Chg (fun _ => False) w1 w') => signal_any p b out s v n nm A c bs w' (HP.out.keep hc)
    have HBA := Lib.hid hba
    have hgp : ¬ g = p := by have := HG.out; omega
    have hS : ∀ w', Chg (· = p) w1 w' → w'.cell? ⟨g, 1, none⟩ = some (.int .i64 x.a) ∧ w'.cell? ⟨g, 2, none⟩ = some (.int .i64 x.b) ∧ w'.cell? ⟨g, 5, none⟩ = some (.slice x.A x.n x.cp) := fun w' hw => ⟨(bx.keep hw hgp).cell 1 rfl, (bx.keep hw hgp).cell 2 rfl, (bx.keep hw hgp).cell 5 rfl⟩
    have HS := Lib.hid hS
    have k0 : Chg (fun _ => False) w1 w1.drew := (Chg.refl _ _).drew
    have kp : Chg (· = p) w1 w1.drew := (Chg.refl _ _).drew
    obtain ⟨ys, hys⟩ : ∃ ys, ys = x.bs.take 40 := ⟨_, rfl⟩
    have hyl : ys.length ≤ 1000 := by rw [hys, List.length_take]; omega
    have hyb : ∀ z ∈ ys, 0 ≤ z ∧ z ≤ 255 := fun z hz => HX.out.byt z (by rw [hys] at hz; exact List.mem_of_mem_take hz)
    have hF : Calls Tryd.prog 12 #[.slice x.A x.n x.cp, .int .i64 40] w1.drew (Gives w1.drew (x.bs.take 40)) := few_any x.A x.cp x.n 40 x.bs w1.drew (HX.out.rd.drew) HX.out.len (by have := HX.out.most; omega) HX.out.cap (by omega)
    rw [← hys] at hF
    have HF := Lib.hid hF
    have HYB := Lib.hid hyb
    have hpw1 : p < w1.heap.size := Nat.lt_of_lt_of_le hpl hc1.size
    clear hba hS hys hF hyb
    rcases (by omega : r = 10 ∨ r = 11 ∨ r = 12) with rfl | rfl | rfl
    all_goals
      go_upto_region 32 with fail
      rw [catStr_eq]
      go_region_held3 (fun w' => w'.cell? ⟨g, 1, none⟩ = some (.int .i64 x.a) ∧ w'.cell? ⟨g, 2, none⟩ = some (.int .i64 x.b) ∧ w'.cell? ⟨g, 5, none⟩ = some (.slice x.A x.n x.cp)) (first | with_reducible exact HS.out _ k2 | with_reducible exact HS.out _ kp4 | with_reducible exact HS.out _ kp) (first
        | (go_at_call 95; (with_reducible refine (HBA.out _ F fc ys _ k4 (by simp [ByteArray.size_append]; omega) hyl HYB.out HFO.out HFY.out).mono ?_); rintro e w2 ⟨⟨rv, rfl⟩, o', s', h1, h2⟩; have k2 : Chg (· = p) w1 w2 := kp4.trans h2 (fun x hx => .inl hx); have H1 := Lib.hid h1; clear h1)
        | (go_at_call 12; (with_reducible refine HF.out.mono ?_); rintro e w4 ⟨F, fc, rfl, ho, hc4⟩; have k4 := k0.trans hc4 (fun x hx => hx.elim); have kp4 := k4.mono (T := (· = p)) (fun x h => h.elim); have HFO := Lib.hid (fun (u : World) (hu : Chg (· = p) w4 u) => (Rd.of_own ho).keep hu (fun x hx e => by have e' : x = p := e; have h1 : w1.heap.size ≤ x := (own_lt ho hx).1; omega)); have HFY := Lib.hid (fun (_ : ys ≠ []) (x : Nat) (hx : In F x) => (Nat.lt_of_lt_of_le hpw1 (own_lt ho hx).1 : p < x)))
        | (go_at_call 29; (with_reducible refine (hName_any x.a _ (HNN.out.keep k4 (fun h => h))).mono ?_); rintro e w' ⟨⟨nmA, rfl, hnA⟩, rfl⟩; (try have hsum : nmA.size + nmB.size ≤ 9223372036854775807 := by omega))
        | (go_at_call 29; (with_reducible refine (hName_any x.b _ (HNN.out.keep k4 (fun h => h))).mono ?_); rintro e w' ⟨⟨nmB, rfl, hnB⟩, rfl⟩; (try have hsum : nmA.size + nmB.size ≤ 9223372036854775807 := by omega))
        | (go_at_call 29; (with_reducible refine (hName_any x.a _ (HNN.out.keep k0 (fun h => h))).mono ?_); rintro e w' ⟨⟨nmA, rfl, hnA⟩, rfl⟩; (try have hsum : nmA.size + nmB.size ≤ 9223372036854775807 := by omega))
        | (go_at_call 29; (with_reducible refine (hName_any x.b _ (HNN.out.keep k0 (fun h => h))).mono ?_); rintro e w' ⟨⟨nmB, rfl, hnB⟩, rfl⟩; (try have hsum : nmA.size + nmB.size ≤ 9223372036854775807 := by omega))
        | fail)
      all_goals
        go_wp2_with fail
        go_end0
        exact ⟨⟨_, rfl⟩, o', s', H1.out, (hc1.mono (fun x h => h.elim)).trans k2 (fun x hx => .inl hx)⟩
  · have hb := late_any p b out s v n w1 HP.out
    rcases hr1 with rfl | rfl
    all_goals
      go_wp2_with (go_at_call 96; (with_reducible refine hb.mono ?_); rintro e w2 ⟨⟨rv, rfl⟩, hst⟩; have HST := Lib.hid hst; clear hst)
      go_end0
      obtain ⟨o', s', h1, h2⟩ := HST.out
      exact ⟨⟨_, rfl⟩, o', s', h1, (hc1.mono (fun x h => h.elim)).trans h2 (fun x hx => .inl hx)⟩
  · subst hr1
    have hb := cancel_any p b out s v n w1 HP.out
    have hb2 := terminate_any p b out s v n w1 HP.out
    have x2 : w1.cell? ⟨g, 2, none⟩ = some (.int .i64 x.b) := bx.cell 2 rfl
    go_wp2_with (first
      | (go_at_call 97; (with_reducible refine hb.mono ?_); rintro e w2 ⟨⟨rv, rfl⟩, hst⟩; have HST := Lib.hid hst; clear hst)
      | (go_at_call 98; (with_reducible refine hb2.mono ?_); rintro e w2 ⟨⟨rv, rfl⟩, hst⟩; have HST := Lib.hid hst; clear hst))
    all_goals
      go_end0
      first
      | (obtain ⟨o', s', h1, h2⟩ := HST.out
         exact ⟨⟨_, rfl⟩, o', s', h1, (hc1.mono (fun x h => h.elim)).trans h2 (fun x hx => .inl hx)⟩)
      | exact ⟨⟨_, rfl⟩, out, s, HP.out, hc1.mono (fun x h => h.elim)⟩
end Go.Proofs.YtngfimjbgopgjaaDoor
