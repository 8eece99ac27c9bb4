/- StStep, PlayAll, in one text (merge.py). -/
import Derived.Test.YtngfimjbgopgjaaGreatDoorStOpsAll
import Derived.Test.YtngfimjbgopgjaaGreatDoorHDefs
import Derived.Test.YtngfimjbgopgjaaGreatDoorHName
import Derived.Test.YtngfimjbgopgjaaGreatDoorEvOwnAll
import Derived.Test.YtngfimjbgopgjaaGreatDoorHand
import Derived.Test.YtngfimjbgopgjaaGreatDoorRawAll
/- Contract of cutoverplay.step (gen_step.py): a Pen stands behind it. -/
namespace Go.Proofs.YtngfimjbgopgjaaGreatDoor
open Go.RowKit
set_option linter.unusedVariables false

/-! Operations of drawn regions, under names: so the walk branches over them in silence. -/
def catStr : Oper := { dst := some 114, op := .binOp .add 9 (.tmp 110) (.tmp 113) 9, type := 9, pos := "play.go:66", after := #[{ on := 3, ground := .data }, { on := 6, ground := .data }], guard := none }
@[simp] theorem catStr_dst : catStr.dst = some 114 := rfl
@[simp] theorem catStr_op : catStr.op = .binOp .add 9 (.tmp 110) (.tmp 113) 9 := rfl
@[simp] theorem catStr_type : catStr.type = 9 := rfl
@[simp] theorem catStr_guard : catStr.guard = none := rfl
theorem catStr_eq : ({ dst := some 114, op := .binOp .add 9 (.tmp 110) (.tmp 113) 9, type := 9, pos := "play.go:66", after := #[{ on := 3, ground := .data }, { on := 6, ground := .data }], guard := none } : Oper) = catStr := rfl
def nodLoad : Oper := { dst := some 76, op := .load 74 (.tmp 75), type := 74, pos := "play.go:58", after := #[{ on := 5, ground := .data }], guard := none }
@[simp] theorem nodLoad_dst : nodLoad.dst = some 76 := rfl
@[simp] theorem nodLoad_op : nodLoad.op = .load 74 (.tmp 75) := rfl
@[simp] theorem nodLoad_type : nodLoad.type = 74 := rfl
@[simp] theorem nodLoad_guard : nodLoad.guard = none := rfl
theorem nodLoad_eq : ({ dst := some 76, op := .load 74 (.tmp 75), type := 74, pos := "play.go:58", after := #[{ on := 5, ground := .data }], guard := none } : Oper) = nodLoad := rfl
def nodAt : Oper := { dst := some 78, op := .indexAddr 74 (.tmp 76) (.tmp 77), type := 0, pos := "play.go:58", after := #[{ on := 6, ground := .data }, { on := 7, ground := .data }], guard := none }
@[simp] theorem nodAt_dst : nodAt.dst = some 78 := rfl
@[simp] theorem nodAt_op : nodAt.op = .indexAddr 74 (.tmp 76) (.tmp 77) := rfl
@[simp] theorem nodAt_type : nodAt.type = 0 := rfl
@[simp] theorem nodAt_guard : nodAt.guard = none := rfl
theorem nodAt_eq : ({ dst := some 78, op := .indexAddr 74 (.tmp 76) (.tmp 77), type := 0, pos := "play.go:58", after := #[{ on := 6, ground := .data }, { on := 7, ground := .data }], guard := none } : Oper) = nodAt := rfl
def triAt : Oper := { dst := some 79, op := .fieldAddr 114 (.tmp 78) 1, type := 0, pos := "play.go:58", after := #[{ on := 8, ground := .data }], guard := none }
@[simp] theorem triAt_dst : triAt.dst = some 79 := rfl
@[simp] theorem triAt_op : triAt.op = .fieldAddr 114 (.tmp 78) 1 := rfl
@[simp] theorem triAt_type : triAt.type = 0 := rfl
@[simp] theorem triAt_guard : triAt.guard = none := rfl
theorem triAt_eq : ({ dst := some 79, op := .fieldAddr 114 (.tmp 78) 1, type := 0, pos := "play.go:58", after := #[{ on := 8, ground := .data }], guard := none } : Oper) = triAt := rfl
def triLoad : Oper := { dst := some 80, op := .load 3 (.tmp 79), type := 3, pos := "play.go:58", after := #[{ on := 9, ground := .data }], guard := none }
@[simp] theorem triLoad_dst : triLoad.dst = some 80 := rfl
@[simp] theorem triLoad_op : triLoad.op = .load 3 (.tmp 79) := rfl
@[simp] theorem triLoad_type : triLoad.type = 3 := rfl
@[simp] theorem triLoad_guard : triLoad.guard = none := rfl
theorem triLoad_eq : ({ dst := some 80, op := .load 3 (.tmp 79), type := 3, pos := "play.go:58", after := #[{ on := 9, ground := .data }], guard := none } : Oper) = triLoad := rfl

/-- A raw step. -/
structure RStepV where
  wh : Int
  a : Int
  b : Int
  c : Int
  v : Int
  A : Option Addr
  n : Nat
  cp : Nat
  bs : List Int
def RStepV.row (x : RStepV) : Array Value := #[.int .i64 x.wh, .int .i64 x.a, .int .i64 x.b, .int .i64 x.c, .int .i64 x.v, .slice x.A x.n x.cp]
def RStepV.val (x : RStepV) : Value := .agg x.row
structure RStepOk (w : World) (x : RStepV) : Prop where
  len : x.bs.length = x.n
  cap : x.n ≤ x.cp
  most : x.n ≤ 140737488351232
  rd : Rd w x.A (x.bs.map (Value.int .u8))
  byt : ∀ z ∈ x.bs, 0 ≤ z ∧ z ≤ 255
theorem RStepOk.still {w w' : World} {x : RStepV} (h : RStepOk w x) (hc : Chg (fun _ => False) w w') : RStepOk w' x := ⟨h.len, h.cap, h.most, h.rd.keep hc (fun _ _ h => h), h.byt⟩

set_option maxHeartbeats 8000000 in
set_option maxRecDepth 20000 in
theorem step_any (p : Nat) (b : Int × Int × Int) (out : List EvF) (s : StV) (v n : Int) (x : RStepV) (D : Option Addr) (dn dc : Nat) (w : World) (h : PenS w p b out s v n) (hx : RStepOk w x) (hD : RawDs w D dn dc) (hN : NamesAt w 0) (hp0 : p ≠ 0) :
    Calls Tryz.prog 43 #[.pointer (some ⟨p, 0, none⟩), x.val, .slice D dn dc] w (Stepped p b v n w) := by
  obtain ⟨O, oc, hbx, _⟩ := h.ex
  have hpl := h.lt
  unfold penRow at hbx
  unfold RStepV.val RStepV.row
  obtain ⟨w1, hw1⟩ : ∃ w1, w1 = w.alloc (.cells #[.int .i64 x.wh, .int .i64 x.a, .int .i64 x.b, .int .i64 x.c, .int .i64 x.v, .slice x.A x.n x.cp] 69) := ⟨_, rfl⟩
  have bx : BoxAt w1 w.heap.size 69 #[.int .i64 x.wh, .int .i64 x.a, .int .i64 x.b, .int .i64 x.c, .int .i64 x.v, .slice x.A x.n x.cp] := by rw [hw1]; exact BoxAt.new w _ _
  have hc1 : Chg (fun _ => False) w w1 := by rw [hw1]; exact (Chg.refl _ _).alloc _
  have hp1 := h.keep hc1
  have hbx1 := hbx.keep hc1 (fun h => h)
  have hx1 := hx.still hc1
  have hD1 := hD.still hc1
  have hN1 := hN.keep hc1 (fun h => h)
  have HDD := Lib.hid hD1
  have HNN := Lib.hid hN1
  have HX := Lib.hid hx1
  have HP := Lib.hid hp1
  have q0 : w1.cell? ⟨p, 0, none⟩ = some (.int .i64 s.id) := hbx1.cell 0 rfl
  clear hx hD hN h hp1 hx1 hD1 hN1 hbx
  go_enter Tryz.func43, Tryz.ntmps43
  go_upto_region 1 with fail
  rw [← hw1]
  clear hw1
  obtain ⟨g, hg⟩ : ∃ g, g = w.heap.size := ⟨_, rfl⟩
  rw [← hg] at bx ⊢
  have HG := Lib.hid hg
  clear hg
  obtain ⟨sid, hsid⟩ : ∃ sid, sid = s.id := ⟨_, rfl⟩
  rw [← hsid] at q0
  clear hsid
  by_cases hid : sid = 0
  · have f1 : (sid == 0) = true := by simpa using hid
    have f2 : decide (sid = 0) = true := by simpa using hid
    clear hid
    have hdf := hDefs_any D dn dc 7 w1 HDD.out
    have hst := fun (E : Option Addr) (ec : Nat) (dl : List Df) (w' : World) (hc : Chg (fun _ => False) w1 w') => start_any p b out s v n E ec dl w' (HP.out.keep hc)
    have HST0 := Lib.hid hst
    clear hst
    go_wp2_with (first
      | (go_at_call 78; (with_reducible refine (HST0.out E ec dl w2 hc2 HE.out (by omega) (fun d hd => (HDN.out d hd).1) HDY.out).mono ?_); (rintro e w3 ⟨⟨rv, rfl⟩, hst⟩; have HST := Lib.hid hst; clear hst))
      | (go_at_call 18; (with_reducible refine hdf.mono ?_); (rintro e w2 ⟨E, en, ec, dl, rfl, hR, hdl, hdn, hns, hDo, hc2⟩; subst hdl; have HDN := Lib.hid hns; have HDY := Lib.hid (⟨fun _ x hx => by have h1 := hDo x hx; have h2 := hc1.size; omega, fun d hd _ x hx => by have h1 := (hns d hd).2 x hx; have h2 := hc1.size; omega⟩ : (dl ≠ [] → ∀ x, In E x → p < x) ∧ ∀ d ∈ dl, d.ns ≠ [] → ∀ x, In d.A x → p < x); have HE := Lib.hid (fun (u : World) (hu : Chg (· = p) w2 u) => (hR.keep hu (fun _ x hx e => by have e' : x = p := e; have h1 := hDo x hx; have h2 := hc1.size; omega) (fun d hd _ x hx e => by have e' : x = p := e; have h1 := (hns d hd).2 x hx; have h2 := hc1.size; omega) : RdDf u E dl)); clear hR hns hDo)))
    refine bodyPost_ret (results_none rfl _ _ _) rfl ?_
    obtain ⟨o', s', h1, h2⟩ := HST.out
    exact ⟨⟨_, rfl⟩, o', s', h1, ((hc1.trans hc2 (fun x hx => hx.elim)).mono (fun x h => h.elim)).trans h2 (fun x hx => .inl hx)⟩
  have f1 : (sid == 0) = false := by simpa using hid
  have f2 : decide (sid = 0) = false := by simpa using hid
  clear hid
  have x0 : w1.cell? ⟨g, 0, none⟩ = some (.int .i64 x.wh) := bx.cell 0 rfl
  go_upto_block 0 with (go_at_call 5; go_must (refine (pick_nat _ _ _ (by omega) (by omega)).mono ?_; rintro e w' ⟨r, hr, rfl, rfl⟩))
  clear q0 x0 f1 f2
  rcases (by omega : (r ≤ 4) ∨ (5 ≤ r ∧ r ≤ 8) ∨ r = 9 ∨ (10 ≤ r ∧ r ≤ 12) ∨ (r = 13 ∨ r = 14) ∨ r = 15) with hr1 | hr1 | hr1 | hr1 | hr1 | hr1
  · have hb := begin_any p b out s v n w1 HP.out
    rcases (by omega : r = 0 ∨ r = 1 ∨ r = 2 ∨ r = 3 ∨ r = 4) with rfl | rfl | rfl | rfl | rfl
    all_goals
      go_wp2_with (go_at_call 79; (with_reducible refine hb.mono ?_); rintro e w2 ⟨⟨rv, rfl⟩, hst⟩; have HST := Lib.hid hst; clear hst)
      go_end0
      obtain ⟨o', s', h1, h2⟩ := HST.out
      exact ⟨⟨_, rfl⟩, o', s', h1, (hc1.mono (fun x h => h.elim)).trans h2 (fun x hx => .inl hx)⟩
  · have hfi := fun (j : Nat) (m : Int) (ok : Bool) (A : Option Addr) (c : Nat) (bs : List Int) (w' : World) (hc : Chg (fun _ => False) w1 w') => finish_any p b out s v n j m ok A c bs w' (HP.out.keep hc)
    have HFI := Lib.hid hfi
    have hst := HP.out.st w1 (Chg.refl _ _)
    have h8 : s.nl.length ≤ 8 := by rw [← hst.dn]; exact hst.d8
    have hgp : ¬ g = p := by have := HG.out; omega
    have hpw1 : p < w1.heap.size := Nat.lt_of_lt_of_le hpl hc1.size
    obtain ⟨O1, oc1, hb1, _⟩ := HP.out.ex
    unfold penRow at hb1
    have HB1 := Lib.hid hb1
    have HST := Lib.hid hst
    have HSU := Lib.hid (fun (u : World) (hu : Chg (· = p) w1 u) => HP.out.st u hu)
    have hS : ∀ w', Chg (· = p) w1 w' → w'.cell? ⟨g, 1, none⟩ = some (.int .i64 x.a) ∧ w'.cell? ⟨g, 5, none⟩ = some (.slice x.A x.n x.cp) := fun w' hw => ⟨(bx.keep hw hgp).cell 1 rfl, (bx.keep hw hgp).cell 5 rfl⟩
    have HS := Lib.hid hS
    clear hfi hst hb1 hS
    rcases (by omega : r = 5 ∨ r = 6 ∨ r = 7 ∨ r = 8) with rfl | rfl | rfl | rfl
    all_goals
      clear hr hr1
      go_wp2_with fail
      go_loopw [6, 7] (fun i _ w' => ∃ j : Nat, i = .int .i64 j ∧ j ≤ s.nl.length ∧ Chg (fun _ => False) w1 w') (fun i _ _ => s.nl.length - (intOf i).toNat)
      case atStart => exact ⟨0, rfl, Nat.zero_le _, Chg.refl _ _⟩
      case round =>
        obtain ⟨j, rfl, hj, hcr⟩ := hrel
        have q6 : wr.cell? ⟨p, 6, none⟩ = some (.slice s.N s.nl.length s.nc) := (HB1.out.keep hcr (fun h => h)).cell 6 rfl
        by_cases hjn : j < s.nl.length
        · have j0 : (0 : Int) ≤ (j : Int) := by omega
          have j1 : (j : Int) < (s.nl.length : Int) := by omega
          obtain ⟨b5, o5, hN, _⟩ := HST.out.nd.at_ (k := 0) (by rw [ndC_len]; omega)
          have hnd : ∀ u, Chg (· = p) w1 u → u.cell? ⟨b5, o5 + j * 4, none⟩ = some (.int .i64 s.nl[j].st) ∧ u.cell? ⟨b5, o5 + j * 4 + 1, none⟩ = some (.int .i64 s.nl[j].tr) := fun u hu => by
            have h1 := (HSU.out u hu).nd.cells hN
            exact ⟨h1 _ _ (ndC_get s.nl j hjn).1, by rw [Nat.add_assoc]; exact h1 _ _ (ndC_get s.nl j hjn).2.1⟩
          obtain ⟨st, hst⟩ : ∃ st, st = s.nl[j].st := ⟨_, rfl⟩
          obtain ⟨tr, htr⟩ : ∃ tr, tr = s.nl[j].tr := ⟨_, rfl⟩
          rw [← hst, ← htr] at hnd
          have HND := Lib.hid hnd
          rw [hN] at q6
          clear hnd hst htr
          have hcrp : Chg (· = p) w1 wr := hcr.mono (fun x h => h.elim)
          have c0 := (HND.out wr hcrp).1
          by_cases hs1 : st = 1
          · subst hs1
            have x1 : wr.cell? ⟨g, 1, none⟩ = some (.int .i64 x.a) := (HS.out wr hcrp).1
            go_upto_region 23 with fail
            go_cut [69] from 46 to 68 (fun r w' => (∃ b' : Bool, r = .bool b') ∧ w' = wr)
            case first =>
              go_wp2_with fail
              go_meet
              exact ⟨⟨_, rfl⟩, rfl⟩
            obtain ⟨⟨b', rfl⟩, rfl⟩ := hcut
            go_upto_if 69 with fail
            go_cut [7] from 70 to 70 (fun m w' => ∃ k : Nat, k ≤ 40 ∧ m = .int .i64 k ∧ w' = wc)
            case first =>
              cases b'
              · go_wp2_with fail
                go_meet
                exact ⟨0, by omega, rfl, rfl⟩
              · go_wp2_with fail
                go_meet
                exact ⟨40, by omega, rfl, rfl⟩
            obtain ⟨k, hk, rfl, rfl⟩ := hcut
            obtain ⟨ys, hys⟩ : ∃ ys, ys = x.bs.take k := ⟨_, rfl⟩
            have hyl : ys.length ≤ 1000 := by rw [hys, List.length_take]; omega
            have hyb : ∀ z ∈ ys, 0 ≤ z ∧ z ≤ 255 := fun z hz => HX.out.byt z (by rw [hys] at hz; exact List.mem_of_mem_take hz)
            have hF := few_any x.A x.cp x.n k x.bs wc.drew ((HX.out.rd.keep hcr (fun _ _ h => h)).drew) HX.out.len (by have := HX.out.most; omega) HX.out.cap (by omega)
            rw [← hys] at hF
            have HF := Lib.hid hF
            have HYB := Lib.hid hyb
            have HJ := Lib.hid hjn
            clear hys hF hyb c0 x1
            have k0 : Chg (fun _ => False) w1 wc.drew := hcr.drew
            have kp : Chg (· = p) w1 wc.drew := hcrp.drew
            have k00 : Chg (fun _ => False) wc wc.drew := (Chg.refl _ _).drew
            go_upto_region 25 with fail
            rw [nodLoad_eq, nodAt_eq, triAt_eq, triLoad_eq]
            go_region_held3 (fun w' => w'.cell? ⟨g, 1, none⟩ = some (.int .i64 x.a) ∧ w'.cell? ⟨g, 5, none⟩ = some (.slice x.A x.n x.cp) ∧ w'.cell? ⟨b5, o5 + j * 4 + 1, none⟩ = some (.int .i64 tr)) (first | with_reducible exact ⟨(HS.out _ k2).1, (HS.out _ k2).2, (HND.out _ k2).2⟩ | with_reducible exact ⟨(HS.out _ kp4).1, (HS.out _ kp4).2, (HND.out _ kp4).2⟩ | with_reducible exact ⟨(HS.out _ kp).1, (HS.out _ kp).2, (HND.out _ kp).2⟩) (first
              | (go_at_call 80; (with_reducible refine (HFI.out j _ _ F fc ys _ k4 HJ.out hyl HYB.out HFO.out HFY.out).mono ?_); rintro e w2 ⟨⟨rv, rfl⟩, o', s', h1, h2⟩; have k2 : Chg (· = p) w1 w2 := kp4.trans h2 (fun x hx => .inl hx); have H1 := Lib.hid h1; clear h1)
              | (go_at_call 12; (with_reducible refine HF.out.mono ?_); rintro e w4 ⟨F, fc, rfl, ho, hc4⟩; have k4 := k0.trans hc4 (fun x hx => hx.elim); have kp4 := k4.mono (T := (· = p)) (fun x h => h.elim); have q64 := (k00.trans hc4 (fun x hx => hx.elim)).cell_some q6 (fun h => h); have HFO := Lib.hid (fun (u : World) (hu : Chg (· = p) w4 u) => (Rd.of_own ho).keep hu (fun x hx e => by have e' : x = p := e; have h1 : wc.heap.size ≤ x := (own_lt ho hx).1; have h2 := hcr.size; omega)); have HFY := Lib.hid (fun (_ : ys ≠ []) (x : Nat) (hx : In F x) => (Nat.lt_of_lt_of_le (Nat.lt_of_lt_of_le hpw1 hcr.size) (own_lt ho hx).1 : p < x)))
              | fail)
            all_goals
              go_wp2_with fail
              (try simp only [Exit.inBlock, Exit.then])
              refine bodyPost_ret (results_none rfl _ _ _) rfl ?_
              exact ⟨⟨_, rfl⟩, o', s', H1.out, (hc1.mono (fun x h => h.elim)).trans k2 (fun x hx => .inl hx)⟩
          · have f1 : (st == 1) = false := by simpa using hs1
            have f2 : decide (st = 1) = false := by simpa using hs1
            have HS1 := Lib.hid hs1
            clear hs1
            go_wp2_with fail
            go_roundw
            case rel => exact ⟨j + 1, by go_num, hjn, hcr⟩
            case measure => simp [intOf]; omega
        · have j1 : ¬ (j : Int) < (s.nl.length : Int) := by omega
          have hb := begin_any p b out s v n wr (HP.out.keep hcr)
          go_wp2_with (go_at_call 79; (with_reducible refine hb.mono ?_); rintro e w2 ⟨⟨rv, rfl⟩, hst⟩; have HST := Lib.hid hst; clear hst)
          go_end0
          obtain ⟨o', s', h1, h2⟩ := HST.out
          exact ⟨⟨_, rfl⟩, o', s', h1, ((hc1.trans hcr (fun x hx => hx.elim)).mono (fun x h => h.elim)).trans h2 (fun x hx => .inl hx)⟩
  · subst hr1
    have hba := fun (nm : ByteArray) (m : Int) (w' : World) (hc : Chg (fun _ => False) w1 w') (hnm : nm.size ≤ 5) => arm_any p b out s v n nm m w' (HP.out.keep hc) (by omega)
    have HBA := Lib.hid hba
    have hgp : ¬ g = p := by have := HG.out; omega
    have hS : ∀ w', Chg (· = p) w1 w' → w'.cell? ⟨g, 1, none⟩ = some (.int .i64 x.a) ∧ w'.cell? ⟨g, 2, none⟩ = some (.int .i64 x.b) := fun w' hw => ⟨(bx.keep hw hgp).cell 1 rfl, (bx.keep hw hgp).cell 2 rfl⟩
    have HS := Lib.hid hS
    have k0 : Chg (fun _ => False) w1 w1.drew := (Chg.refl _ _).drew
    have kp : Chg (· = p) w1 w1.drew := (Chg.refl _ _).drew
    clear hba hS
    go_upto_region 28 with fail
    go_region_held3 (fun w' => w'.cell? ⟨g, 1, none⟩ = some (.int .i64 x.a) ∧ w'.cell? ⟨g, 2, none⟩ = some (.int .i64 x.b)) (first | with_reducible exact HS.out _ k2 | with_reducible exact HS.out _ kp) (first
      | (go_at_call 81; (with_reducible refine (HBA.out nm _ _ k0 hnm).mono ?_); rintro e w2 ⟨⟨rv, rfl⟩, o', s', h1, h2⟩; have k2 : Chg (· = p) w1 w2 := kp.trans h2 (fun x hx => .inl hx); have H1 := Lib.hid h1; clear h1)
      | (go_at_call 19; (with_reducible refine (hName_any _ _ (HNN.out.keep k0 (fun h => h))).mono ?_); rintro e w' ⟨⟨nm, rfl, hnm⟩, rfl⟩)
      | (go_at_call 5; (with_reducible refine (pick_nat _ _ _ (by omega) (by omega)).mono ?_); rintro e w' ⟨r9, hr9, rfl, rfl⟩)
      | fail)
    all_goals
      go_wp2_with fail
      go_end0
      exact ⟨⟨_, rfl⟩, o', s', H1.out, (hc1.mono (fun x h => h.elim)).trans k2 (fun x hx => .inl hx)⟩
  · have hba := fun (nm : ByteArray) (A : Option Addr) (c : Nat) (bs : List Int) (w' : World) (hc : Chg (fun _ => False) w1 w') => signal_any p b out s v n nm A c bs w' (HP.out.keep hc)
    have HBA := Lib.hid hba
    have hgp : ¬ g = p := by have := HG.out; omega
    have hS : ∀ w', Chg (· = p) w1 w' → w'.cell? ⟨g, 1, none⟩ = some (.int .i64 x.a) ∧ w'.cell? ⟨g, 2, none⟩ = some (.int .i64 x.b) ∧ w'.cell? ⟨g, 5, none⟩ = some (.slice x.A x.n x.cp) := fun w' hw => ⟨(bx.keep hw hgp).cell 1 rfl, (bx.keep hw hgp).cell 2 rfl, (bx.keep hw hgp).cell 5 rfl⟩
    have HS := Lib.hid hS
    have k0 : Chg (fun _ => False) w1 w1.drew := (Chg.refl _ _).drew
    have kp : Chg (· = p) w1 w1.drew := (Chg.refl _ _).drew
    obtain ⟨ys, hys⟩ : ∃ ys, ys = x.bs.take 40 := ⟨_, rfl⟩
    have hyl : ys.length ≤ 1000 := by rw [hys, List.length_take]; omega
    have hyb : ∀ z ∈ ys, 0 ≤ z ∧ z ≤ 255 := fun z hz => HX.out.byt z (by rw [hys] at hz; exact List.mem_of_mem_take hz)
    have hF : Calls Tryz.prog 12 #[.slice x.A x.n x.cp, .int .i64 40] w1.drew (Gives w1.drew (x.bs.take 40)) := few_any x.A x.cp x.n 40 x.bs w1.drew (HX.out.rd.drew) HX.out.len (by have := HX.out.most; omega) HX.out.cap (by omega)
    rw [← hys] at hF
    have HF := Lib.hid hF
    have HYB := Lib.hid hyb
    have hpw1 : p < w1.heap.size := Nat.lt_of_lt_of_le hpl hc1.size
    clear hba hS hys hF hyb
    rcases (by omega : r = 10 ∨ r = 11 ∨ r = 12) with rfl | rfl | rfl
    all_goals
      go_upto_region 32 with fail
      rw [catStr_eq]
      go_region_held3 (fun w' => w'.cell? ⟨g, 1, none⟩ = some (.int .i64 x.a) ∧ w'.cell? ⟨g, 2, none⟩ = some (.int .i64 x.b) ∧ w'.cell? ⟨g, 5, none⟩ = some (.slice x.A x.n x.cp)) (first | with_reducible exact HS.out _ k2 | with_reducible exact HS.out _ kp4 | with_reducible exact HS.out _ kp) (first
        | (go_at_call 82; (with_reducible refine (HBA.out _ F fc ys _ k4 (by simp [ByteArray.size_append]; omega) hyl HYB.out HFO.out HFY.out).mono ?_); rintro e w2 ⟨⟨rv, rfl⟩, o', s', h1, h2⟩; have k2 : Chg (· = p) w1 w2 := kp4.trans h2 (fun x hx => .inl hx); have H1 := Lib.hid h1; clear h1)
        | (go_at_call 12; (with_reducible refine HF.out.mono ?_); rintro e w4 ⟨F, fc, rfl, ho, hc4⟩; have k4 := k0.trans hc4 (fun x hx => hx.elim); have kp4 := k4.mono (T := (· = p)) (fun x h => h.elim); have HFO := Lib.hid (fun (u : World) (hu : Chg (· = p) w4 u) => (Rd.of_own ho).keep hu (fun x hx e => by have e' : x = p := e; have h1 : w1.heap.size ≤ x := (own_lt ho hx).1; omega)); have HFY := Lib.hid (fun (_ : ys ≠ []) (x : Nat) (hx : In F x) => (Nat.lt_of_lt_of_le hpw1 (own_lt ho hx).1 : p < x)))
        | (go_at_call 19; (with_reducible refine (hName_any x.a _ (HNN.out.keep k4 (fun h => h))).mono ?_); rintro e w' ⟨⟨nmA, rfl, hnA⟩, rfl⟩; (try have hsum : nmA.size + nmB.size ≤ 9223372036854775807 := by omega))
        | (go_at_call 19; (with_reducible refine (hName_any x.b _ (HNN.out.keep k4 (fun h => h))).mono ?_); rintro e w' ⟨⟨nmB, rfl, hnB⟩, rfl⟩; (try have hsum : nmA.size + nmB.size ≤ 9223372036854775807 := by omega))
        | (go_at_call 19; (with_reducible refine (hName_any x.a _ (HNN.out.keep k0 (fun h => h))).mono ?_); rintro e w' ⟨⟨nmA, rfl, hnA⟩, rfl⟩; (try have hsum : nmA.size + nmB.size ≤ 9223372036854775807 := by omega))
        | (go_at_call 19; (with_reducible refine (hName_any x.b _ (HNN.out.keep k0 (fun h => h))).mono ?_); rintro e w' ⟨⟨nmB, rfl, hnB⟩, rfl⟩; (try have hsum : nmA.size + nmB.size ≤ 9223372036854775807 := by omega))
        | fail)
      all_goals
        go_wp2_with fail
        go_end0
        exact ⟨⟨_, rfl⟩, o', s', H1.out, (hc1.mono (fun x h => h.elim)).trans k2 (fun x hx => .inl hx)⟩
  · have hb := late_any p b out s v n w1 HP.out
    rcases hr1 with rfl | rfl
    all_goals
      go_wp2_with (go_at_call 83; (with_reducible refine hb.mono ?_); rintro e w2 ⟨⟨rv, rfl⟩, hst⟩; have HST := Lib.hid hst; clear hst)
      go_end0
      obtain ⟨o', s', h1, h2⟩ := HST.out
      exact ⟨⟨_, rfl⟩, o', s', h1, (hc1.mono (fun x h => h.elim)).trans h2 (fun x hx => .inl hx)⟩
  · subst hr1
    have hb := cancel_any p b out s v n w1 HP.out
    have hb2 := terminate_any p b out s v n w1 HP.out
    have x2 : w1.cell? ⟨g, 2, none⟩ = some (.int .i64 x.b) := bx.cell 2 rfl
    go_wp2_with (first
      | (go_at_call 84; (with_reducible refine hb.mono ?_); rintro e w2 ⟨⟨rv, rfl⟩, hst⟩; have HST := Lib.hid hst; clear hst)
      | (go_at_call 85; (with_reducible refine hb2.mono ?_); rintro e w2 ⟨⟨rv, rfl⟩, hst⟩; have HST := Lib.hid hst; clear hst))
    all_goals
      go_end0
      first
      | (obtain ⟨o', s', h1, h2⟩ := HST.out
         exact ⟨⟨_, rfl⟩, o', s', h1, (hc1.mono (fun x h => h.elim)).trans h2 (fun x hx => .inl hx)⟩)
      | exact ⟨⟨_, rfl⟩, out, s, HP.out, hc1.mono (fun x h => h.elim)⟩
end Go.Proofs.YtngfimjbgopgjaaGreatDoor

/- Play, RStep, in one text (merge.py). -/
/- Contracts of cutoverplay.More from nothing on, and of Branch: a line of events, a row of the call's own. -/
namespace Go.Proofs.YtngfimjbgopgjaaGreatDoor
open Go.RowKit
set_option linter.unusedVariables false

/-! ### Raw steps in memory. -/
structure RStepIs (w : World) (A : Option Addr) (i : Nat) (x : RStepV) : Prop where
  at_ : ∃ b o, A = some ⟨b, o, none⟩ ∧ w.cell? ⟨b, o + i * 6, none⟩ = some (.int .i64 x.wh) ∧ w.cell? ⟨b, o + i * 6 + 1, none⟩ = some (.int .i64 x.a) ∧ w.cell? ⟨b, o + i * 6 + 2, none⟩ = some (.int .i64 x.b) ∧ w.cell? ⟨b, o + i * 6 + 3, none⟩ = some (.int .i64 x.c) ∧ w.cell? ⟨b, o + i * 6 + 4, none⟩ = some (.int .i64 x.v) ∧ w.cell? ⟨b, o + i * 6 + 5, none⟩ = some (.slice x.A x.n x.cp)
  ok : RStepOk w x
theorem RStepIs.still {w w' : World} {A : Option Addr} {i : Nat} {x : RStepV} (h : RStepIs w A i x) (hc : Chg (fun _ => False) w w') : RStepIs w' A i x := by
  obtain ⟨b, o, e, h0, h1, h2, h3, h4, h5⟩ := h.at_
  exact ⟨⟨b, o, e, hc.cell_some h0 (fun h => h), hc.cell_some h1 (fun h => h), hc.cell_some h2 (fun h => h), hc.cell_some h3 (fun h => h), hc.cell_some h4 (fun h => h), hc.cell_some h5 (fun h => h)⟩, h.ok.still hc⟩
def RSteps (w : World) (A : Option Addr) (n c : Nat) : Prop := n ≤ c ∧ c ≤ maxLen ∧ ∃ f : Nat → RStepV, ∀ i, i < n → RStepIs w A i (f i)
theorem RSteps.still {w w' : World} {A : Option Addr} {n c : Nat} (h : RSteps w A n c) (hc : Chg (fun _ => False) w w') : RSteps w' A n c := by
  obtain ⟨h1, h2, f, h3⟩ := h
  exact ⟨h1, h2, f, fun i hi => (h3 i hi).still hc⟩

theorem Yng.off {p : Nat} {f : EvF} {S : Nat → Prop} (h : Yng p f) (hS : ∀ x, S x → x ≤ p) : EvOff S f :=
  ⟨fun e x hx hs => by have := h.a e x hx; have := hS x hs; omega, fun e x hx hs => by have := h.d e x hx; have := hS x hs; omega, fun d hd e x hx hs => by have := h.n d hd e x hx; have := hS x hs; omega⟩
/-- What Branch gives: a line, a row of the call's own. -/
def LineGave (w : World) (e : Ending) (w' : World) : Prop :=
  ∃ (A : Option Addr) (c : Nat) (l : List EvF) (b : Int × Int × Int), e = .returned (.slice A l.length c) ∧ OwnL w w' A c l ∧ Chain (0, 0, 0) l b
theorem ver_some (was n : Int) (w : World) (h1 : 1 ≤ was) (h2 : was ≤ 2199023255552) : Calls Tryz.prog 17 #[.int .i64 was, .int .i64 n] w fun e w' => ∃ v : Int, e = .returned (.int .i64 v) ∧ was ≤ v ∧ v ≤ was + 14 ∧ w = w' :=
  (hVersion_any was n w h1 h2).mono fun e w' ⟨he, hw⟩ => ⟨_, he, by
    have h := iterG_bd (n % 3).toNat was
    unfold hverV
    exact h.1, by
    have h := iterG_bd (n % 3).toNat was
    unfold hverV
    omega, hw⟩

set_option maxHeartbeats 8000000 in
set_option maxRecDepth 20000 in
theorem more_any (T : Option Addr) (sn sc : Nat) (D : Option Addr) (dn dc : Nat) (w : World) (hS : RSteps w T sn sc) (hD : RawDs w D dn dc) (hN : NamesAt w 0) :
    Calls Tryz.prog 16 #[.slice none 0 0, .slice T sn sc, .slice D dn dc] w (LineGave w) := by
  obtain ⟨hs1, hs2, F, hs3⟩ := hS
  have HS3 := Lib.hid hs3
  have HD := Lib.hid hD
  have HN := Lib.hid hN
  have hw0 : 0 < w.heap.size := World.block_lt_of_cell? w _ hN.1
  have HW0 := Lib.hid hw0
  obtain ⟨i0, hi, hz0, hz1, hz2⟩ := info_parts evInfo
  have hmade : (w.alloc (.cells #[] 32)).ownsRow w.heap.size 32 9 (.slice (some ⟨w.heap.size, 0, none⟩) 0 0) 0 [] := World.ownsRow_made w #[] 0 (Nat.le_refl _) (by decide) rfl
  clear hs3 hD hN hw0
  go_enter Tryz.func16, Tryz.ntmps16
  go_wp2_with (at_builtin; refine wpList_append_rd _ rfl (.tmp 14) (.tmp 15) 27 rfl w.heap.size 32 i0 _ 9 112 Tryz.underlying27 hi hz0 hz1 hz2 rfl (by decide) _ 0 0 [] rfl hmade none 0 0 [] rfl rfl (Rd.nil _ _) (fun u hu => by cases hu) (by decide) (by decide) (by simp) ?_; intro A1 c1 w1 hown1 hg1 hb1; have hc1 := chg_made hg1; simp only [Nat.zero_add, List.nil_append] at hown1)
  go_loopw [7, 8, 9, 10, 11, 12, 13] (fun out v nw i _ _ _ w' => ∃ (j : Nat) (A : Option Addr) (c : Nat) (l : List EvF) (b : Int × Int × Int) (vv t : Int), out = .slice A l.length c ∧ v = .int .i64 vv ∧ nw = .int .i64 t ∧ i = .int .i64 j ∧ 1 ≤ vv ∧ vv ≤ 1 + 14 * (j : Int) ∧ j ≤ 30 ∧ OwnL w w' A c l ∧ Chain (0, 0, 0) l b) (fun _ _ _ i _ _ _ _ => 30 - (intOf i).toNat)
  case atStart => exact ⟨0, A1, c1, [], (0, 0, 0), 1, 0, rfl, rfl, rfl, rfl, by omega, by omega, by omega, ⟨hown1, (fun f hf => by cases hf), (fun f hf => by cases hf), hc1⟩, rfl⟩
  case round =>
    clear hown1 hg1 hb1 hc1 hmade
    obtain ⟨j, A, c, l, b, vv, t, rfl, rfl, rfl, rfl, hv1, hv2, hj, hL, hch⟩ := hrel
    have HL := Lib.hid hL
    have HCH := Lib.hid hch
    have hl2 := hch.good.1
    obtain ⟨ln, hln⟩ : ∃ ln, ln = l.length := ⟨_, rfl⟩
    have HLN := Lib.hid hln
    rw [← hln] at hl2 ⊢
    clear hL hch hln
    go_upto_region 8 with fail
    go_cut [46] from 34 to 45 (fun r w' => (∃ b' : Bool, r = .bool b' ∧ (b' = true → j < sn ∧ j < 30)) ∧ w' = wr)
    case first =>
      by_cases g1 : j < sn
      · have f1 : (j : Int) < (sn : Int) := by omega
        by_cases g2 : j < 30
        · have f2 : (j : Int) < 30 := by omega
          go_wp2_with fail
          all_goals
            go_meet
            exact ⟨⟨_, rfl, fun _ => ⟨g1, g2⟩⟩, rfl⟩
        · have f2 : ¬ (j : Int) < 30 := by omega
          go_wp2_with fail
          all_goals
            go_meet
            exact ⟨⟨_, rfl, fun h => by cases h⟩, rfl⟩
      · have f1 : ¬ (j : Int) < (sn : Int) := by omega
        go_wp2_with fail
        all_goals
          go_meet
          exact ⟨⟨_, rfl, fun h => by cases h⟩, rfl⟩
    obtain ⟨⟨b', rfl, hb'⟩, rfl⟩ := hcut
    cases b'
    · go_wp2_with fail
      go_ret
      exact ⟨A, c, l, b, by rw [HLN.out]; rfl, HL.out, HCH.out⟩
    obtain ⟨g1, g2⟩ := hb' rfl
    clear hb'
    have hsx := (HS3.out j g1).still HL.out.chg
    obtain ⟨x, hx⟩ : ∃ x, x = F j := ⟨_, rfl⟩
    rw [← hx] at hsx
    obtain ⟨b5, o5, rfl, q0, q1, q2, q3, q4, q5⟩ := hsx.at_
    have HOK := Lib.hid hsx.ok
    clear hsx hx
    have j0 : (0 : Int) ≤ (j : Int) := by omega
    have j1 : (j : Int) < (sn : Int) := by omega
    obtain ⟨w2, hw2⟩ : ∃ w2, w2 = wc.alloc (.cells #[.int .i64 x.wh, .int .i64 x.a, .int .i64 x.b, .int .i64 x.c, .int .i64 x.v, .slice x.A x.n x.cp] 69) := ⟨_, rfl⟩
    have bx : BoxAt w2 wc.heap.size 69 #[.int .i64 x.wh, .int .i64 x.a, .int .i64 x.b, .int .i64 x.c, .int .i64 x.v, .slice x.A x.n x.cp] := by rw [hw2]; exact BoxAt.new wc _ _
    have hc2 : Chg (fun _ => False) wc w2 := by rw [hw2]; exact (Chg.refl _ _).alloc _
    go_upto_region 11 with fail
    rw [← hw2]
    clear hw2 q0 q1 q2 q3 q4 q5
    obtain ⟨g, hg⟩ : ∃ g, g = wc.heap.size := ⟨_, rfl⟩
    rw [← hg] at bx ⊢
    clear hg
    have x3 : w2.cell? ⟨g, 3, none⟩ = some (.int .i64 x.c) := bx.cell 3 rfl
    have x4 : w2.cell? ⟨g, 4, none⟩ = some (.int .i64 x.v) := bx.cell 4 rfl
    have HL2 := Lib.hid (HL.out.still hc2)
    have hnp := fun (v n : Int) => newPen_any A c l v n w2 HL2.out.rd (by rw [← HLN.out]; omega)
    rw [← HLN.out] at hnp
    have HNP := Lib.hid hnp
    clear hnp
    go_upto_region 14 with (first
      | (go_at_call 42; (with_reducible refine (HNP.out _ _).mono ?_); rintro e w3 ⟨P, k, rfl, hc3, hk⟩; have HK := Lib.hid hk; clear hk)
      | (go_at_call 5; (with_reducible refine (pick_nat _ _ _ (by omega) (by omega)).mono ?_); rintro e w' ⟨r9, hr9, rfl, rfl⟩)
      | (go_at_call 17; (with_reducible refine (ver_some vv _ _ hv1 (by omega)).mono ?_); rintro e w' ⟨v2, rfl, hva, hvb, rfl⟩))
    clear x3 x4
    by_cases hk0 : k = 0
    rotate_left
    · have f1 : (k != 0) = true := by simpa using hk0
      have f2 : decide (k = 0) = false := by simpa using hk0
      clear hk0
      go_wp2_with fail
      go_ret
      exact ⟨A, c, l, b, by rw [HLN.out]; rfl, HL2.out.still hc3, HCH.out⟩
    subst hk0
    obtain ⟨p, b2, rfl, hpw, ⟨out, s, v3, n3, hP⟩, hch2⟩ := HK.out rfl
    have hL3 := HL2.out.still hc3
    have hpA : ∀ x, In A x → x < p := fun x hx => Nat.lt_of_lt_of_le (own_lt HL2.out.own hx).2 hpw
    have hcw := hL3.chg
    have bx3 := bx.keep hc3 (fun h => h)
    have hst := step_any p b2 out s v3 n3 x D dn dc w3 hP (HOK.out.still (hc2.trans hc3 (fun x hx => hx.elim))) (HD.out.still hcw) (HN.out.keep hcw (fun h => h)) (by have h1 := HW0.out; have h2 := HL2.out.chg.size; omega)
    unfold RStepV.val RStepV.row at hst
    have HST := Lib.hid hst
    have HL3 := Lib.hid hL3
    have HCH2 := Lib.hid hch2
    have z0 : w3.cell? ⟨g, 0, none⟩ = some (.int .i64 x.wh) := bx3.cell 0 rfl
    have z1 : w3.cell? ⟨g, 1, none⟩ = some (.int .i64 x.a) := bx3.cell 1 rfl
    have z2 : w3.cell? ⟨g, 2, none⟩ = some (.int .i64 x.b) := bx3.cell 2 rfl
    have z3 : w3.cell? ⟨g, 3, none⟩ = some (.int .i64 x.c) := bx3.cell 3 rfl
    have z4 : w3.cell? ⟨g, 4, none⟩ = some (.int .i64 x.v) := bx3.cell 4 rfl
    have z5 : w3.cell? ⟨g, 5, none⟩ = some (.slice x.A x.n x.cp) := bx3.cell 5 rfl
    clear hP hst hL3 hch2 HK
    go_upto_region 17 with (go_at_call 43; (with_reducible refine HST.out.mono ?_); rintro e w4 ⟨⟨rv, rfl⟩, o', s', hP4, hc4⟩; have HP4 := Lib.hid hP4; clear hP4)
    clear z0 z1 z2 z3 z4 z5
    obtain ⟨O, oc, hb4, hro⟩ := HP4.out.ex
    unfold penRow at hb4
    have r11 : w4.cell? ⟨p, 11, none⟩ = some (.slice O o'.length oc) := hb4.cell 11 rfl
    have hrd := hro w4 (Chg.refl _ _)
    have hlo : o'.length ≤ 200 := by
      have h1 := HP4.out.ch.len
      have h2 := HP4.out.id2
      have h3 := HP4.out.b0
      simp only at h1
      omega
    have hL4 := HL2.out.still (hc3.trans hc4 (fun x hx => .inr (by rw [hx]; exact hpw)))
    have HL4 := Lib.hid hL4
    have hown4 : w4.ownsRow w.heap.size 32 9 (.slice A ln c) ln (eoC l) := by
      rw [HLN.out]
      exact hL4.own
    have HRD := Lib.hid hrd
    have HRO := Lib.hid hro
    have hm1 : ln + o'.length ≤ maxLen := by simp only [maxLen]; omega
    have hm2 : (ln + o'.length) * 112 ≤ 140737488355328 := by omega
    have hsz : w.heap.size ≤ w4.heap.size := Nat.le_trans HL3.out.chg.size hc4.size
    have hpw2 := hpw
    clear hb4 hro hrd hL4
    go_wp2_with (at_builtin; refine wpList_append_rd _ rfl (.tmp 81) (.tmp 85) 27 rfl w.heap.size 32 i0 _ 9 112 Tryz.underlying27 hi hz0 hz1 hz2 rfl (by decide) A ln c (eoC l) rfl hown4 O o'.length oc (eoC o') rfl (eoC_len _) HRD.out.rd (eoC_one _) hm1 hm2 hsz ?_; intro A5 c5 w5 hown5 hg5 hb5)
    go_roundw
    case rel =>
      refine ⟨j + 1, A5, c5, l ++ o', (s'.id, s'.ver, s'.tm), v2, _, ?_, rfl, rfl, by go_num, by omega, by omega, by omega, ?_, ?_⟩
      · rw [HLN.out, List.length_append]
      · refine HL4.out.app HRD.out.ev (fun f hf => (HP4.out.yo f hf).off (fun x hx => Nat.le_of_lt (hpA x hx))) ?_ hg5 hb5
        rw [← HLN.out]
        exact hown5
      · exact HCH2.out.app HP4.out.ch
    case measure => simp [intOf]; omega

theorem branch_any (T : Option Addr) (sn sc : Nat) (D : Option Addr) (dn dc : Nat) (w : World) (hS : RSteps w T sn sc) (hD : RawDs w D dn dc) (hN : NamesAt w 0) :
    Calls Tryz.prog 4 #[.slice T sn sc, .slice D dn dc] w (LineGave w) := by
  have hm := more_any T sn sc D dn dc w hS hD hN
  go_enter Tryz.func4, Tryz.ntmps4
  go_wp2_with (go_at_call 16; (with_reducible refine hm.mono ?_); rintro e w2 ⟨A, c, l, b, rfl, hL, hch⟩)
  go_ret
  exact ⟨A, c, l, b, rfl, hL, hch⟩
end Go.Proofs.YtngfimjbgopgjaaGreatDoor

/- []RawStep and []RawDef as arguments, in the walk's words. -/
namespace Go.Proofs.YtngfimjbgopgjaaGreatDoor
open Go.ChangeShapes Go.WideShapes Go.ChangeAt Go.RowKit Go.Deep
set_option linter.unusedVariables false

instance : Inhabited RStepV := ⟨⟨0, 0, 0, 0, 0, none, 0, 0, []⟩⟩
theorem cells_rstep : Tryz.prog.cellsOf 69 = 6 := by kernel_rfl
theorem len6r {α : Type} {l : List α} (h : l.length = 6) : ∃ a0 a1 a2 a3 a4 a5, l = [a0, a1, a2, a3, a4, a5] := by
  match l, h with
  | [a0, a1, a2, a3, a4, a5], _ => exact ⟨a0, a1, a2, a3, a4, a5, rfl⟩

section
variable {H : Type} {enc : TypeId × Value → H} {W : World}
theorem open_RDs {A : Option Addr} {n c : Nat} {d : DataW H} {p : List MemPlace} (h : DataW.Trod enc Tryz.prog W 0 (fun _ => true) true 23 (.slice A n c) d p) (hw : ∀ m ∈ d.weights Tryz.prog 23, m ≤ reachBytes) : RawDs W A n c := by
  obtain ⟨fuel, hf⟩ := h
  have hf' : DataW.trod enc Tryz.prog W 0 (fun _ => true) true fuel 23 [.slice A n c] = some (d, p) := by simpa [Value.cells] using hf
  obtain ⟨A', n', c', e, h⟩ := open_RawDs hf' hw
  simp only [List.cons.injEq, Value.slice.injEq, and_true] at e
  obtain ⟨rfl, rfl, rfl⟩ := e
  exact h
set_option maxRecDepth 20000 in
theorem open_RSteps {A : Option Addr} {n c : Nat} {d : DataW H} {p : List MemPlace} (h : DataW.Trod enc Tryz.prog W 0 (fun _ => true) true 22 (.slice A n c) d p) (hw : ∀ m ∈ d.weights Tryz.prog 22, m ≤ reachBytes) : RSteps W A n c := by
  obtain ⟨fuel, hf⟩ := h
  have hf' : DataW.trod enc Tryz.prog W 0 (fun _ => true) true fuel 22 [.slice A n c] = some (d, p) := by simpa [Value.cells] using hf
  obtain ⟨h1, h2, f, h3⟩ := open_elems_w (α := RStepV) Tryz.underlying22 cells_rstep (by omega) hf'
    (fun cs d v => (∀ m ∈ d.weights Tryz.prog 69, m ≤ reachBytes) → cs = [.int .i64 v.wh, .int .i64 v.a, .int .i64 v.b, .int .i64 v.c, .int .i64 v.v, .slice v.A v.n v.cp] ∧ v.bs.length = v.n ∧ v.n ≤ v.cp ∧ v.n ≤ 140737488351232 ∧ Rd W v.A (v.bs.map (Value.int .u8)) ∧ ∀ z ∈ v.bs, 0 ≤ z ∧ z ≤ 255) (by
      intro m cs y hy
      obtain ⟨dy, py⟩ := y
      obtain ⟨xs, k, _, hx, hl, hlen, hg⟩ := DataW.trod_struct Tryz.underlying69 hy
      obtain ⟨y0, y1, y2, y3, y4, y5, rfl⟩ := len6r (l := xs) hlen
      simp only [Prod.mk.injEq] at hx
      obtain ⟨hd, _⟩ := hx
      rw [cells_rstep] at hl
      obtain ⟨c0, c1, c2, c3, c4, c5, rfl⟩ := len6r hl
      have g0 := hg 0 _ rfl
      have g1 := hg 1 _ rfl
      have g2 := hg 2 _ rfl
      have g3 := hg 3 _ rfl
      have g4 := hg 4 _ rfl
      have g5 := hg 5 _ rfl
      simp [cells_int, cells_bytes] at g0 g1 g2 g3 g4 g5
      obtain ⟨z0, e0, _, _⟩ := DataW.trod_int Tryz.underlying3 g0
      obtain ⟨z1, e1, _, _⟩ := DataW.trod_int Tryz.underlying3 g1
      obtain ⟨z2, e2, _, _⟩ := DataW.trod_int Tryz.underlying3 g2
      obtain ⟨z3, e3, _, _⟩ := DataW.trod_int Tryz.underlying3 g3
      obtain ⟨z4, e4, _, _⟩ := DataW.trod_int Tryz.underlying3 g4
      simp only [List.cons.injEq, and_true] at e0 e1 e2 e3 e4
      subst e0 e1 e2 e3 e4
      subst hd
      obtain ⟨B, bn, bc, e5⟩ := Joins.slice_form Tryz.underlying24 g5
      simp only [List.cons.injEq, and_true] at e5
      subst e5
      by_cases hwt : ∀ m ∈ (DataW.agg [y0.1, y1.1, y2.1, y3.1, y4.1, y5.1]).weights Tryz.prog 69, m ≤ reachBytes
      · obtain ⟨B', bn', bc', bs, e, k1, k2, k3, k4, k5⟩ := open_by_w g5 (fun q hq => hwt q (by
          simp only [DataW.weights, Tryz.underlying69]
          exact DataW.weights_mem_each (j := 5) (t := 24) (d := y5.1) rfl rfl q hq))
        simp only [List.cons.injEq, Value.slice.injEq, and_true] at e
        obtain ⟨rfl, rfl, rfl⟩ := e
        exact ⟨⟨z0, z1, z2, z3, z4, B, bn, bc, bs⟩, fun _ => ⟨rfl, k1, k2, k3, k4, k5⟩⟩
      · exact ⟨default, fun h => absurd h hwt⟩)
  refine ⟨h1, h2, f, fun i hi => ?_⟩
  obtain ⟨b, o, cs, d', e, _, hc, hq, hd⟩ := h3 i hi
  obtain ⟨rfl, k1, k2, k3, k4, k5⟩ := hq (fun m hm => hw m (hd m hm))
  exact ⟨⟨b, o, e, by simpa using hc 0 _ rfl, hc 1 _ rfl, hc 2 _ rfl, hc 3 _ rfl, hc 4 _ rfl, hc 5 _ rfl⟩, ⟨k1, k2, k3, k4, k5⟩⟩
end
end Go.Proofs.YtngfimjbgopgjaaGreatDoor
