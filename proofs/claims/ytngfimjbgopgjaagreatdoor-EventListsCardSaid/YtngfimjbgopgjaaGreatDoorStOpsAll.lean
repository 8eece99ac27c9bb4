/- StOps, StLate, in one text (merge.py). -/
import Derived.Test.YtngfimjbgopgjaaGreatDoorStWrt
/- Contracts of a Pen's Cancel, Terminate, Start, Arm, Finish, Signal, Begin (gen_ops.py): they leave a Pen. -/
namespace Go.Proofs.YtngfimjbgopgjaaGreatDoor
open Go.RowKit
set_option linter.unusedVariables false

/-- Something is given, and the Pen stands, behind more events. -/
def Stepped (p : Nat) (b : Int × Int × Int) (v n : Int) (w : World) (e : Ending) (w' : World) : Prop :=
  (∃ r : Value, e = .returned r) ∧ ∃ (out : List EvF) (s : StV), PenS w' p b out s v n ∧ Chg (· = p) w w'
theorem Stepped.still {p : Nat} {b : Int × Int × Int} {out : List EvF} {s : StV} {v n : Int} {w w' : World} (h : PenS w p b out s v n) (hc : Chg (fun _ => False) w w') (r : Value) : Stepped p b v n w (.returned r) w' :=
  ⟨⟨r, rfl⟩, out, s, h.keep hc, hc.mono (fun x h => h.elim)⟩
theorem Stepped.put {p : Nat} {b : Int × Int × Int} {out : List EvF} {s : StV} {v n : Int} {w w' w2 : World} (h : PenS w2 p b out s v n) (hc : Chg (fun _ => False) w w') (hc2 : Chg (· = p) w' w2) (r : Value) : Stepped p b v n w (.returned r) w2 :=
  ⟨⟨r, rfl⟩, out, s, h, (hc.mono (fun x h => h.elim)).trans hc2 (fun x hx => .inl hx)⟩

set_option maxHeartbeats 4000000 in
set_option maxRecDepth 20000 in
theorem cancel_any (p : Nat) (b : Int × Int × Int) (out : List EvF) (s : StV) (v n : Int) (w : World) (h : PenS w p b out s v n) :
    Calls Tryz.prog 84 #[.pointer (some ⟨p, 0, none⟩)] w (Stepped p b v n w) := by
  obtain ⟨O, oc, hbx, _⟩ := h.ex
  have hop := open_any s v n O out.length oc p w hbx
  have hwr := write_any p b out s v n ⟨0, 0, 0, 8, 0, 0, { data := #[] }, none, 0, [], none, 0, []⟩ w h (fun u _ => EvS.bare u _ _ _ _) (Yng.bare p _ _ _ _ _ _ _)
  simp only [EvF.val, EvF.row, List.length_nil] at hwr
  have HP := Lib.hid h
  have HW := Lib.hid hwr
  clear h hwr hbx
  go_enter Tryz.func84, Tryz.ntmps84
  go_upto_region 2 with (go_at_call 95; (with_reducible refine hop.mono ?_); rintro e w2 ⟨⟨k, rfl⟩, rfl⟩)
  by_cases hk : k = 0
  rotate_left
  · have f1 : (k != 0) = true := by simpa using hk
    have f2 : decide (k = 0) = false := by simpa using hk
    clear hk
    go_wp2_with fail
    go_ret
    exact Stepped.still HP.out (Chg.refl _ _) _
  · subst hk
    go_wp2_with (go_at_call 94; (with_reducible refine HW.out.mono ?_); rintro e w2 ⟨k, out', s', rfl, hp2, hc2, _⟩; have HP2 := Lib.hid hp2; clear hp2)
    go_ret
    exact Stepped.put HP2.out (Chg.refl _ _) hc2 _

set_option maxHeartbeats 4000000 in
set_option maxRecDepth 20000 in
theorem terminate_any (p : Nat) (b : Int × Int × Int) (out : List EvF) (s : StV) (v n : Int) (w : World) (h : PenS w p b out s v n) :
    Calls Tryz.prog 85 #[.pointer (some ⟨p, 0, none⟩)] w (Stepped p b v n w) := by
  obtain ⟨O, oc, hbx, _⟩ := h.ex
  have hop := open_any s v n O out.length oc p w hbx
  have hwr := write_any p b out s v n ⟨0, 0, 0, 12, 0, 0, { data := #[] }, none, 0, [], none, 0, []⟩ w h (fun u _ => EvS.bare u _ _ _ _) (Yng.bare p _ _ _ _ _ _ _)
  simp only [EvF.val, EvF.row, List.length_nil] at hwr
  have HP := Lib.hid h
  have HW := Lib.hid hwr
  clear h hwr hbx
  go_enter Tryz.func85, Tryz.ntmps85
  go_upto_region 2 with (go_at_call 95; (with_reducible refine hop.mono ?_); rintro e w2 ⟨⟨k, rfl⟩, rfl⟩)
  by_cases hk : k = 0
  rotate_left
  · have f1 : (k != 0) = true := by simpa using hk
    have f2 : decide (k = 0) = false := by simpa using hk
    clear hk
    go_wp2_with fail
    go_ret
    exact Stepped.still HP.out (Chg.refl _ _) _
  · subst hk
    go_wp2_with (go_at_call 94; (with_reducible refine HW.out.mono ?_); rintro e w2 ⟨k, out', s', rfl, hp2, hc2, _⟩; have HP2 := Lib.hid hp2; clear hp2)
    go_ret
    exact Stepped.put HP2.out (Chg.refl _ _) hc2 _

set_option maxHeartbeats 4000000 in
set_option maxRecDepth 20000 in
theorem start_any (p : Nat) (b : Int × Int × Int) (out : List EvF) (s : StV) (v n : Int) (D : Option Addr) (dc : Nat) (dl : List Df) (w : World) (h : PenS w p b out s v n) (hD : ∀ u, Chg (· = p) w u → RdDf u D dl) (hdl : dl.length ≤ 1000) (hns : ∀ d ∈ dl, d.ns.length ≤ 255) (hY : (dl ≠ [] → ∀ x, In D x → p < x) ∧ ∀ d ∈ dl, d.ns ≠ [] → ∀ x, In d.A x → p < x) :
    Calls Tryz.prog 78 #[.pointer (some ⟨p, 0, none⟩), .slice D dl.length dc] w (Stepped p b v n w) := by
  obtain ⟨O, oc, hbx, _⟩ := h.ex
  have hck := check_any D dc dl w (hD w (Chg.refl _ _)) hns
  have hwr := (fun (w' : World) (hc : Chg (fun _ => False) w w') => write_any p b out s v n ⟨0, 0, 0, 1, 0, 0, { data := #[] }, none, 0, [], D, dc, dl⟩ w' (h.keep hc) (fun u hu => ⟨⟨Nat.zero_le _, Nat.zero_le _, Rd.nil _ _, hD u ((hc.mono (fun x h => h.elim)).trans hu (fun x hx => .inl hx)), by simp only; omega, fun d hd => Nat.le_trans (hns d hd) (by omega)⟩, fun z hz => by cases hz⟩) ⟨fun h => absurd rfl h, hY.1, hY.2⟩)
  simp only [EvF.val, EvF.row, List.length_nil] at hwr
  have HP := Lib.hid h
  have HW := Lib.hid hwr
  unfold penRow at hbx
  have q0 : w.cell? ⟨p, 0, none⟩ = some (.int .i64 s.id) := hbx.cell 0 rfl
  clear h hwr hbx hD
  go_enter Tryz.func78, Tryz.ntmps78
  by_cases hid : 0 < s.id
  · have f1 : decide (0 < s.id) = true := by simpa using hid
    go_wp2_with fail
    go_ret
    exact Stepped.still HP.out (Chg.refl _ _) _
  have f1 : decide (0 < s.id) = false := by simpa using hid
  go_upto_region 4 with (go_at_call 93; (with_reducible refine hck.mono ?_); rintro e w2 ⟨⟨k, rfl⟩, hc2⟩)
  by_cases hk : k = 0
  rotate_left
  · have f2 : (k != 0) = true := by simpa using hk
    have f3 : decide (k = 0) = false := by simpa using hk
    clear hk
    go_wp2_with fail
    go_ret
    exact Stepped.still HP.out hc2 _
  · subst hk
    have hw2 := HW.out w2 hc2
    go_wp2_with (go_at_call 94; (with_reducible refine hw2.mono ?_); rintro e w3 ⟨k, out', s', rfl, hp2, hc3, _⟩; have HP2 := Lib.hid hp2; clear hp2)
    go_ret
    exact Stepped.put HP2.out hc2 hc3 _

set_option maxHeartbeats 4000000 in
set_option maxRecDepth 20000 in
theorem arm_any (p : Nat) (b : Int × Int × Int) (out : List EvF) (s : StV) (v n : Int) (nm : ByteArray) (m : Int) (w : World) (h : PenS w p b out s v n) (hnm : nm.size ≤ 1048576) :
    Calls Tryz.prog 81 #[.pointer (some ⟨p, 0, none⟩), .string nm, .int .i64 m] w (Stepped p b v n w) := by
  obtain ⟨O, oc, hbx, _⟩ := h.ex
  have hop := open_any s v n O out.length oc p w hbx
  have hin := fun w' => risName_any nm w' (by omega)
  obtain ⟨bn, hbn⟩ : ∃ bn, bn = isNameB nm := ⟨_, rfl⟩
  rw [← hbn] at hin
  clear hbn
  have hwr := (fun (w' : World) (hc : Chg (fun _ => False) w w') => write_any p b out s v n ⟨0, 0, 0, 5, 0, m, nm, none, 0, [], none, 0, []⟩ w' (h.keep hc) (fun u hu => ⟨⟨hnm, Nat.zero_le _, Rd.nil _ _, RdDf.nil _ _, Nat.zero_le _, fun d hd => by cases hd⟩, fun z hz => by cases hz⟩) (Yng.bare p _ _ _ _ _ _ _))
  simp only [EvF.val, EvF.row, List.length_nil] at hwr
  have HP := Lib.hid h
  have HW := Lib.hid hwr
  clear h hwr hbx
  go_enter Tryz.func81, Tryz.ntmps81
  go_upto_region 2 with (go_at_call 95; (with_reducible refine hop.mono ?_); rintro e w2 ⟨⟨k, rfl⟩, rfl⟩)
  by_cases hk : k = 0
  rotate_left
  · have f1 : (k != 0) = true := by simpa using hk
    have f2 : decide (k = 0) = false := by simpa using hk
    clear hk
    go_wp2_with fail
    go_ret
    exact Stepped.still HP.out (Chg.refl _ _) _
  subst hk
  go_upto_region 4 with fail
  go_cut [23] from 8 to 22 (fun r w' => (∃ b' : Bool, r = .bool b') ∧ Chg (fun _ => False) w w')
  case first =>
    cases bn
    · go_wp2_with (go_at_call 62; (with_reducible refine (hin _).mono ?_); rintro e w2 ⟨rfl, rfl⟩)
      go_meet
      exact ⟨⟨_, rfl⟩, Chg.refl _ _⟩
    · by_cases hm : m < 1
      · have f1 : decide (m < 1) = true := by simpa using hm
        go_wp2_with (go_at_call 62; (with_reducible refine (hin _).mono ?_); rintro e w2 ⟨rfl, rfl⟩)
        go_meet
        exact ⟨⟨_, rfl⟩, Chg.refl _ _⟩
      · have f1 : decide (m < 1) = false := by simpa using hm
        go_wp2_with (go_at_call 62; (with_reducible refine (hin _).mono ?_); rintro e w2 ⟨rfl, rfl⟩)
        go_meet
        exact ⟨⟨_, rfl⟩, Chg.refl _ _⟩
  obtain ⟨⟨b', rfl⟩, hcX⟩ := hcut
  cases b'
  rotate_left
  · go_wp2_with fail
    go_ret
    exact Stepped.still HP.out hcX _
  · have hw2 := HW.out wc hcX
    go_wp2_with (go_at_call 94; (with_reducible refine hw2.mono ?_); rintro e w3 ⟨k, out', s', rfl, hp2, hc3, _⟩; have HP2 := Lib.hid hp2; clear hp2)
    go_ret
    exact Stepped.put HP2.out hcX hc3 _

set_option maxHeartbeats 4000000 in
set_option maxRecDepth 20000 in
theorem signal_any (p : Nat) (b : Int × Int × Int) (out : List EvF) (s : StV) (v n : Int) (nm : ByteArray) (A : Option Addr) (c : Nat) (bs : List Int) (w : World) (h : PenS w p b out s v n) (hnm : nm.size ≤ 1048576) (hbs : bs.length ≤ 1000) (hby : ∀ z ∈ bs, 0 ≤ z ∧ z ≤ 255) (hA : ∀ u, Chg (· = p) w u → Rd u A (bs.map (Value.int .u8))) (hY : bs ≠ [] → ∀ x, In A x → p < x) :
    Calls Tryz.prog 82 #[.pointer (some ⟨p, 0, none⟩), .string nm, .slice A bs.length c] w (Stepped p b v n w) := by
  obtain ⟨O, oc, hbx, _⟩ := h.ex
  have hin := fun w' => risName_any nm w' (by omega)
  obtain ⟨bn, hbn⟩ : ∃ bn, bn = isNameB nm := ⟨_, rfl⟩
  rw [← hbn] at hin
  clear hbn
  have hh := has_any s nm w (h.st w (Chg.refl _ _))
  simp only [StV.val, StV.row] at hh
  have hwr := (fun (w' : World) (hc : Chg (fun _ => False) w w') => write_any p b out s v n ⟨0, 0, 0, 7, 0, 0, nm, A, c, bs, none, 0, []⟩ w' (h.keep hc) (fun u hu => ⟨⟨hnm, by simp only; omega, hA u ((hc.mono (fun x h => h.elim)).trans hu (fun x hx => .inl hx)), RdDf.nil _ _, Nat.zero_le _, fun d hd => by cases hd⟩, hby⟩) ⟨hY, fun h => absurd rfl h, fun d hd => by cases hd⟩)
  simp only [EvF.val, EvF.row, List.length_nil] at hwr
  have HP := Lib.hid h
  have HW := Lib.hid hwr
  obtain ⟨ln, hln⟩ : ∃ ln, ln = bs.length := ⟨_, rfl⟩
  have HLN := Lib.hid hln
  rw [← hln] at hbs
  unfold penRow at hbx
  rw [← hln] at HW
  rw [← hln]
  have q0 : w.cell? ⟨p, 0, none⟩ = some (.int .i64 s.id) := hbx.cell 0 rfl
  have q1 : w.cell? ⟨p, 1, none⟩ = some (.int .i64 s.ver) := hbx.cell 1 rfl
  have q2 : w.cell? ⟨p, 2, none⟩ = some (.int .i64 s.tm) := hbx.cell 2 rfl
  have q3 : w.cell? ⟨p, 3, none⟩ = some (.int .i64 s.cl) := hbx.cell 3 rfl
  have q4 : w.cell? ⟨p, 4, none⟩ = some (.bool s.ca) := hbx.cell 4 rfl
  have q5 : w.cell? ⟨p, 5, none⟩ = some (.slice s.D s.dl.length s.dc) := hbx.cell 5 rfl
  have q6 : w.cell? ⟨p, 6, none⟩ = some (.slice s.N s.nl.length s.nc) := hbx.cell 6 rfl
  have q7 : w.cell? ⟨p, 7, none⟩ = some (.slice s.T s.tl.length s.tc) := hbx.cell 7 rfl
  have q8 : w.cell? ⟨p, 8, none⟩ = some (.slice s.S s.sl.length s.sc) := hbx.cell 8 rfl
  clear h hwr hbx hA hln
  obtain ⟨sid, hsid⟩ : ∃ x, x = s.id := ⟨_, rfl⟩
  go_enter Tryz.func82, Tryz.ntmps82
  clear hsid sid
  by_cases hid : s.id = 0
  · have f1 : decide (s.id = 0) = true := by simpa using hid
    have HID := Lib.hid hid
    have f2 : (s.id == 0) = true := by simpa using hid
    clear hid
    go_wp2_with fail
    go_ret2
    exact Stepped.still HP.out (Chg.refl _ _) _
  have f1 : decide (s.id = 0) = false := by simpa using hid
  have f2 : (s.id == 0) = false := by simpa using hid
  clear hid
  go_upto_region 3 with fail
  go_cut [22] from 9 to 21 (fun r w' => (∃ b' : Bool, r = .bool b') ∧ w' = w)
  case first =>
    cases bn
    all_goals
      go_wp2_with (go_at_call 62; (with_reducible refine (hin _).mono ?_); rintro e w2 ⟨rfl, rfl⟩)
      go_meet
      exact ⟨⟨_, rfl⟩, rfl⟩
  obtain ⟨⟨b', rfl⟩, rfl⟩ := hcut
  cases b'
  rotate_left
  · go_wp2_with fail
    go_ret2
    exact Stepped.still HP.out (Chg.refl _ _) _
  go_upto_region 5 with fail
  go_cut [28] from 9 to 27 (fun r w' => (∃ b' : Bool, r = .bool b') ∧ Chg (fun _ => False) wc w')
  case first =>
    go_wp2_with (go_at_call 97; (with_reducible refine hh.mono ?_); rintro e w2 ⟨⟨k, rfl⟩, hc2⟩)
    go_meet
    exact ⟨⟨_, rfl⟩, hc2⟩
  obtain ⟨⟨b', rfl⟩, hcX⟩ := hcut
  cases b'
  rotate_left
  · go_wp2_with fail
    go_ret2
    exact Stepped.still HP.out hcX _
  have q3' := hcX.cell_some q3 (fun h => h)
  go_upto_region 7 with fail
  go_cut [34] from 9 to 33 (fun r w' => (∃ b' : Bool, r = .bool b') ∧ w' = wc)
  case first =>
    go_wp2_with fail
    go_meet
    exact ⟨⟨_, rfl⟩, rfl⟩
  obtain ⟨⟨b', rfl⟩, rfl⟩ := hcut
  cases b'
  rotate_left
  · go_wp2_with fail
    go_ret2
    exact Stepped.still HP.out hcX _
  have hw2 := HW.out wc hcX
  go_upto_region 10 with (go_at_call 94; (with_reducible refine hw2.mono ?_); rintro e w3 ⟨k, out', s', rfl, hp2, hc3, _⟩; have HP2 := Lib.hid hp2; clear hp2)
  by_cases hk : k = 0
  · subst hk
    go_wp2_with fail
    go_ret2
    exact Stepped.put HP2.out hcX hc3 _
  · have f3 : (k != 0) = true := by simpa using hk
    have f4 : decide (k = 0) = false := by simpa using hk
    clear hk
    go_wp2_with fail
    go_ret2
    exact Stepped.put HP2.out hcX hc3 _

set_option maxHeartbeats 4000000 in
set_option maxRecDepth 20000 in
theorem finish_any (p : Nat) (b : Int × Int × Int) (out : List EvF) (s : StV) (v n : Int) (j : Nat) (m : Int) (okb : Bool) (A : Option Addr) (c : Nat) (bs : List Int) (w : World) (h : PenS w p b out s v n) (hj : j < s.nl.length) (hbs : bs.length ≤ 1000) (hby : ∀ z ∈ bs, 0 ≤ z ∧ z ≤ 255) (hA : ∀ u, Chg (· = p) w u → Rd u A (bs.map (Value.int .u8))) (hY : bs ≠ [] → ∀ x, In A x → p < x) :
    Calls Tryz.prog 80 #[.pointer (some ⟨p, 0, none⟩), .int .i64 j, .int .i64 m, .bool okb, .slice A bs.length c] w (Stepped p b v n w) := by
  obtain ⟨O, oc, hbx, _⟩ := h.ex
  have hst := h.st w (Chg.refl _ _)
  have h8 : s.nl.length ≤ 8 := by rw [← hst.dn]; exact hst.d8
  have hop := open_any s v n O out.length oc p w hbx
  have hwa := write_any p b out s v n ⟨0, 0, 0, 3, j, m, { data := #[] }, A, c, bs, none, 0, []⟩ w h (fun u hu => ⟨⟨Nat.zero_le _, by simp only; omega, hA u hu, RdDf.nil _ _, Nat.zero_le _, fun d hd => by cases hd⟩, hby⟩) ⟨hY, fun h => absurd rfl h, fun d hd => by cases hd⟩
  have hwb := write_any p b out s v n ⟨0, 0, 0, 4, j, m, { data := #[] }, none, 0, [], none, 0, []⟩ w h (fun u hu => ⟨⟨Nat.zero_le _, Nat.zero_le _, Rd.nil _ _, RdDf.nil _ _, Nat.zero_le _, fun d hd => by cases hd⟩, fun z hz => by cases hz⟩) (Yng.bare p _ _ _ _ _ _ _)
  simp only [EvF.val, EvF.row, List.length_nil] at hwa hwb
  have HP := Lib.hid h
  obtain ⟨ln, hln⟩ : ∃ ln, ln = bs.length := ⟨_, rfl⟩
  rw [← hln] at hbs hwa ⊢
  have HWA := Lib.hid hwa
  have HWB := Lib.hid hwb
  unfold penRow at hbx
  have q6 : w.cell? ⟨p, 6, none⟩ = some (.slice s.N s.nl.length s.nc) := hbx.cell 6 rfl
  obtain ⟨b5, o5, hN, _⟩ := hst.nd.at_ (k := 0) (by rw [ndC_len]; omega)
  have c0 := hst.nd.cells hN _ _ (ndC_get s.nl j hj).1
  have c1 := hst.nd.cells hN _ _ (ndC_get s.nl j hj).2.1
  rw [← Nat.add_assoc] at c1
  rw [hN] at q6
  obtain ⟨x, hx⟩ : ∃ x, x = s.nl[j] := ⟨_, rfl⟩
  rw [← hx] at c0 c1
  clear h hwa hwb hbx hA hln hN hx hst
  have j0 : (0 : Int) ≤ (j : Int) := by omega
  have j1 : (j : Int) < (s.nl.length : Int) := by omega
  have g1 : decide ((j : Int) < 0) = false := by simp
  have g2 : decide ((s.nl.length : Int) ≤ (j : Int)) = false := by simp; omega
  go_enter Tryz.func80, Tryz.ntmps80
  go_upto_region 2 with (go_at_call 95; (with_reducible refine hop.mono ?_); rintro e w2 ⟨⟨k, rfl⟩, rfl⟩)
  by_cases hk : k = 0
  rotate_left
  · have f1 : (k != 0) = true := by simpa using hk
    have f2 : decide (k = 0) = false := by simpa using hk
    clear hk
    go_wp2_with fail
    go_ret
    exact Stepped.still HP.out (Chg.refl _ _) _
  subst hk
  go_upto_region 4 with fail
  go_cut [42] from 11 to 41 (fun r w' => (∃ b' : Bool, r = .bool b') ∧ w' = w)
  case first =>
    obtain ⟨ok2, hok2⟩ : ∃ ok2, ok2 = okb := ⟨_, rfl⟩
    clear ok2 hok2
    by_cases h40 : (40 : Int) < (ln : Int)
    · have f1 : decide ((40 : Int) < (ln : Int)) = true := by simpa using h40
      go_wp2_with fail
      go_meet
      exact ⟨⟨_, rfl⟩, rfl⟩
    · have f1 : decide ((40 : Int) < (ln : Int)) = false := by simpa using h40
      cases okb
      all_goals
        go_wp2_with fail
        go_meet
        exact ⟨⟨_, rfl⟩, rfl⟩
  obtain ⟨⟨b', rfl⟩, rfl⟩ := hcut
  cases b'
  rotate_left
  · go_wp2_with fail
    go_ret
    exact Stepped.still HP.out (Chg.refl _ _) _
  go_upto_region 6 with fail
  go_cut [65] from 11 to 64 (fun r w' => (∃ b' : Bool, r = .bool b') ∧ w' = wc)
  case first =>
    obtain ⟨st, tr, du, xA, xn, xc⟩ := x
    simp only at c0 c1
    by_cases hst : st = 1
    · have f0 : (st != 1) = false := by simpa using hst
      have f2 : decide (st = 1) = true := by simpa using hst
      clear hst
      go_wp2_with fail
      go_meet
      exact ⟨⟨_, rfl⟩, rfl⟩
    · have f0 : (st != 1) = true := by simpa using hst
      have f2 : decide (st = 1) = false := by simpa using hst
      clear hst
      go_wp2_with fail
      go_meet
      exact ⟨⟨_, rfl⟩, rfl⟩
  obtain ⟨⟨b', rfl⟩, rfl⟩ := hcut
  cases b'
  rotate_left
  · go_wp2_with fail
    go_ret
    exact Stepped.still HP.out (Chg.refl _ _) _
  cases okb
  · go_wp2_with (go_at_call 94; (with_reducible refine HWB.out.mono ?_); rintro e w3 ⟨k, out', s', rfl, hp2, hc3, _⟩; have HP2 := Lib.hid hp2; clear hp2)
    go_ret
    exact Stepped.put HP2.out (Chg.refl _ _) hc3 _
  · go_wp2_with (go_at_call 94; (with_reducible refine HWA.out.mono ?_); rintro e w3 ⟨k, out', s', rfl, hp2, hc3, _⟩; have HP2 := Lib.hid hp2; clear hp2)
    go_ret
    exact Stepped.put HP2.out (Chg.refl _ _) hc3 _

set_option maxHeartbeats 4000000 in
set_option maxRecDepth 20000 in
theorem begin_any (p : Nat) (b : Int × Int × Int) (out : List EvF) (s : StV) (v n : Int) (w : World) (h : PenS w p b out s v n) :
    Calls Tryz.prog 79 #[.pointer (some ⟨p, 0, none⟩)] w (Stepped p b v n w) := by
  obtain ⟨O, oc, hbx, _⟩ := h.ex
  have hst := h.st w (Chg.refl _ _)
  have h8 : s.nl.length ≤ 8 := by rw [← hst.dn]; exact hst.d8
  have hop := open_any s v n O out.length oc p w hbx
  have hwr := (fun (k m : Int) (w' : World) (hc : Chg (fun _ => False) w w') => write_any p b out s v n ⟨0, 0, 0, 2, k, m, { data := #[] }, none, 0, [], none, 0, []⟩ w' (h.keep hc) (fun u hu => ⟨⟨Nat.zero_le _, Nat.zero_le _, Rd.nil _ _, RdDf.nil _ _, Nat.zero_le _, fun d hd => by cases hd⟩, fun z hz => by cases hz⟩) (Yng.bare p _ _ _ _ _ _ _))
  simp only [EvF.val, EvF.row, List.length_nil] at hwr
  have hrd := readyNodes_any s w hst
  simp only [StV.val, StV.row] at hrd
  have HP := Lib.hid h
  have HW := Lib.hid hwr
  have HST := Lib.hid hst
  unfold penRow at hbx
  have q0 : w.cell? ⟨p, 0, none⟩ = some (.int .i64 s.id) := hbx.cell 0 rfl
  have q1 : w.cell? ⟨p, 1, none⟩ = some (.int .i64 s.ver) := hbx.cell 1 rfl
  have q2 : w.cell? ⟨p, 2, none⟩ = some (.int .i64 s.tm) := hbx.cell 2 rfl
  have q3 : w.cell? ⟨p, 3, none⟩ = some (.int .i64 s.cl) := hbx.cell 3 rfl
  have q4 : w.cell? ⟨p, 4, none⟩ = some (.bool s.ca) := hbx.cell 4 rfl
  have q5 : w.cell? ⟨p, 5, none⟩ = some (.slice s.D s.dl.length s.dc) := hbx.cell 5 rfl
  have q6 : w.cell? ⟨p, 6, none⟩ = some (.slice s.N s.nl.length s.nc) := hbx.cell 6 rfl
  have q7 : w.cell? ⟨p, 7, none⟩ = some (.slice s.T s.tl.length s.tc) := hbx.cell 7 rfl
  have q8 : w.cell? ⟨p, 8, none⟩ = some (.slice s.S s.sl.length s.sc) := hbx.cell 8 rfl
  clear h hwr hbx hst
  go_enter Tryz.func79, Tryz.ntmps79
  go_upto_region 2 with (go_at_call 95; (with_reducible refine hop.mono ?_); rintro e w2 ⟨⟨k, rfl⟩, rfl⟩)
  by_cases hk : k = 0
  rotate_left
  · have f1 : (k != 0) = true := by simpa using hk
    have f2 : decide (k = 0) = false := by simpa using hk
    clear hk
    go_wp2_with fail
    go_ret3
    exact Stepped.still HP.out (Chg.refl _ _) _
  subst hk
  go_upto_region 5 with (go_at_call 96; (with_reducible refine hrd.mono ?_); rintro e w2 ⟨L, ln, lc, l, rfl, hll, hln, hlb, hlo, hc2⟩; have HLL := Lib.hid hll; have HLB := Lib.hid hlb; clear hll hlb)
  by_cases hl0 : ln = 0
  · subst hl0
    go_wp2_with fail
    go_ret3
    exact Stepped.still HP.out hc2 _
  have hl1 : 0 < l.length := by rw [HLL.out]; omega
  obtain ⟨bL, oL, hLA, hqL⟩ := (Rd.of_own hlo).at_ (k := 0) (by rw [List.length_map]; exact hl1)
  rw [List.getElem_map] at hqL
  have hbl : w.heap.size ≤ bL := (own_lt hlo (by rw [hLA]; rfl)).1
  have hx := HLB.out l[0] (List.getElem_mem _)
  obtain ⟨x, hxe⟩ : ∃ x, x = l[0] := ⟨_, rfl⟩
  rw [← hxe] at hqL hx
  clear hxe hlo
  rw [Nat.add_zero] at hqL
  obtain ⟨j, rfl⟩ : ∃ j : Nat, x = (j : Int) := ⟨x.toNat, by omega⟩
  have hj : j < s.nl.length := by omega
  have f1 : ((ln : Int) == 0) = false := by simp; omega
  have f2 : decide ((ln : Int) = 0) = false := by simp; omega
  have l0 : (0 : Int) < (ln : Int) := by omega
  have hr := HST.out.nd.keep hc2 (fun _ _ h => h)
  obtain ⟨b5, o5, hN, _⟩ := hr.at_ (k := 0) (by rw [ndC_len]; omega)
  have c1 := hr.cells hN _ _ (ndC_get s.nl j hj).2.1
  rw [← Nat.add_assoc] at c1
  obtain ⟨tr, htr⟩ : ∃ tr, tr = s.nl[j].tr := ⟨_, rfl⟩
  rw [← htr] at c1
  have r6 := hc2.cell_some q6 (fun h => h)
  rw [hN] at r6
  subst hLA
  have j0 : (0 : Int) ≤ (j : Int) := by omega
  have j1 : (j : Int) < (s.nl.length : Int) := by omega
  clear htr hN hr q0 q1 q2 q3 q4 q5 q6 q7 q8
  go_upto_region 7 with fail
  go_cut [7] from 9 to 33 (fun r w' => (∃ m : Int, r = .int .i64 m) ∧ Chg (fun _ => False) w2 w')
  case first =>
    go_quiet (fail)
    go_wp2_with fail
    go_meet
    exact ⟨⟨_, rfl⟩, (Chg.refl _ _).drewN _⟩
  obtain ⟨⟨m, rfl⟩, hcX⟩ := hcut
  have hc3 := hc2.trans hcX (fun x hx => hx.elim)
  have hqL2 := hcX.cell_some hqL (fun h => h)
  have hw2 := HW.out j m wc hc3
  clear hqL c1 r6
  go_upto_region 9 with (go_at_call 94; (with_reducible refine hw2.mono ?_); rintro e w3 ⟨k, out', s', rfl, hp2, hc4, _⟩; have HP2 := Lib.hid hp2; clear hp2)
  by_cases hk : k = 0
  · subst hk
    have hbp : ¬ bL = p := fun e => by have := HP.out.lt; omega
    have hqL3 := hc4.cell_some hqL2 hbp
    go_wp2_with fail
    go_ret3
    exact Stepped.put HP2.out hc3 hc4 _
  · have f3 : (k != 0) = true := by simpa using hk
    have f4 : decide (k = 0) = false := by simpa using hk
    clear hk
    go_wp2_with fail
    go_ret3
    exact Stepped.put HP2.out hc3 hc4 _
end Go.Proofs.YtngfimjbgopgjaaGreatDoor

/- Contract of a Pen's Late (gen_late.py). -/
namespace Go.Proofs.YtngfimjbgopgjaaGreatDoor
open Go.RowKit
set_option linter.unusedVariables false

/-- The ID in a Pen's box. -/
def idAt (w : World) (p : Nat) : Int := match w.cell? ⟨p, 0, none⟩ with
  | some (.int _ k) => k
  | _ => 0
theorem PenS.idAt {w : World} {p : Nat} {b : Int × Int × Int} {out : List EvF} {s : StV} {v n : Int} (h : PenS w p b out s v n) : idAt w p = s.id := by
  obtain ⟨O, oc, hb, _⟩ := h.ex
  have q0 : w.cell? ⟨p, 0, none⟩ = some (.int .i64 s.id) := hb.cell 0 rfl
  unfold Proofs.YtngfimjbgopgjaaGreatDoor.idAt
  rw [q0]
theorem write_broke (p : Nat) (b : Int × Int × Int) (out : List EvF) (s : StV) (v n : Int) (k m : Int) (w : World) (h : PenS w p b out s v n) :
    Calls Tryz.prog 94 #[.pointer (some ⟨p, 0, none⟩), .agg #[.int .i64 0, .int .i64 0, .int .i64 0, .int .i64 4, .int .i64 k, .int .i64 m, .string { data := #[] }, .slice none 0 0, .slice none 0 0]] w (WriteGave p b s v n w) :=
  write_any p b out s v n ⟨0, 0, 0, 4, k, m, { data := #[] }, none, 0, [], none, 0, []⟩ w h (fun u hu => ⟨⟨Nat.zero_le _, Nat.zero_le _, Rd.nil _ _, RdDf.nil _ _, Nat.zero_le _, fun d hd => by cases hd⟩, fun z hz => by cases hz⟩) (Yng.bare p _ _ _ _ _ _ _)
theorem write_fired (p : Nat) (b : Int × Int × Int) (out : List EvF) (s : StV) (v n : Int) (nm : ByteArray) (w : World) (h : PenS w p b out s v n) (hnm : nm.size ≤ 1048576) :
    Calls Tryz.prog 94 #[.pointer (some ⟨p, 0, none⟩), .agg #[.int .i64 0, .int .i64 0, .int .i64 0, .int .i64 6, .int .i64 0, .int .i64 0, .string nm, .slice none 0 0, .slice none 0 0]] w (WriteGave p b s v n w) :=
  write_any p b out s v n ⟨0, 0, 0, 6, 0, 0, nm, none, 0, [], none, 0, []⟩ w h (fun u hu => ⟨⟨hnm, Nat.zero_le _, Rd.nil _ _, RdDf.nil _ _, Nat.zero_le _, fun d hd => by cases hd⟩, fun z hz => by cases hz⟩) (Yng.bare p _ _ _ _ _ _ _)
theorem Stepped.to {p : Nat} {b : Int × Int × Int} {out : List EvF} {s : StV} {v n : Int} {w w' : World} (h : PenS w' p b out s v n) (hc : Chg (· = p) w w') (r : Value) : Stepped p b v n w (.returned r) w' := ⟨⟨r, rfl⟩, out, s, h, hc⟩

set_option maxHeartbeats 8000000 in
set_option maxRecDepth 20000 in
theorem late_any (p : Nat) (b : Int × Int × Int) (out : List EvF) (s : StV) (v n : Int) (w : World) (h : PenS w p b out s v n) :
    Calls Tryz.prog 83 #[.pointer (some ⟨p, 0, none⟩)] w (Stepped p b v n w) := by
  obtain ⟨O, oc, hbx, _⟩ := h.ex
  unfold penRow at hbx
  have q2 : w.cell? ⟨p, 2, none⟩ = some (.int .i64 s.tm) := hbx.cell 2 rfl
  have q10 : w.cell? ⟨p, 10, none⟩ = some (.int .i64 n) := hbx.cell 10 rfl
  have HP := Lib.hid h
  clear h hbx
  go_enter Tryz.func83, Tryz.ntmps83
  go_upto_region 2 with fail
  go_cut [4] from 10 to 19 (fun r w' => (∃ t : Int, r = .int .i64 t) ∧ Chg (fun _ => False) w w')
  case first =>
    go_region
    all_goals
      go_wp2_with fail
      go_meet
      exact ⟨⟨_, rfl⟩, (Chg.refl _ _).drew⟩
  obtain ⟨⟨t, rfl⟩, hcX⟩ := hcut
  have hp0 := HP.out.keep hcX
  have hc0 := hcX.mono (T := (· = p)) (fun x h => h.elim)
  clear q2 q10 hcX HP
  go_wp2_with fail
  go_loopw [3, 5, 6] (fun nv i _ w' => ∃ (j : Nat) (m : Int) (out : List EvF) (s : StV), nv = .int .i64 m ∧ i = .int .i64 j ∧ j ≤ 8 ∧ PenS w' p b out s v n ∧ Chg (· = p) w w') (fun _ i _ _ => 9 - (intOf i).toNat)
  case atStart => exact ⟨0, 0, out, s, rfl, rfl, by omega, hp0, hc0⟩
  case round =>
    clear hp0 hc0
    obtain ⟨j, m, out, s, rfl, rfl, hj8, hp, hc⟩ := hrel
    obtain ⟨O, oc, hbx, _⟩ := hp.ex
    have hst := hp.st wr (Chg.refl _ _)
    have h8 : s.nl.length ≤ 8 := by rw [← hst.dn]; exact hst.d8
    unfold penRow at hbx
    have q3 : wr.cell? ⟨p, 3, none⟩ = some (.int .i64 s.cl) := hbx.cell 3 rfl
    have q6 : wr.cell? ⟨p, 6, none⟩ = some (.slice s.N s.nl.length s.nc) := hbx.cell 6 rfl
    have HP := Lib.hid hp
    clear hp
    go_upto_region 4 with fail
    go_cut [35] from 20 to 34 (fun r w' => (∃ b' : Bool, r = .bool b' ∧ (b' = true → j < s.nl.length)) ∧ w' = wr)
    case first =>
      by_cases hjn : j < s.nl.length
      · have j1 : (j : Int) < (s.nl.length : Int) := by omega
        have f1 : decide ((j : Int) < (s.nl.length : Int)) = true := by simpa using hjn
        go_wp2_with fail
        go_meet
        exact ⟨⟨_, rfl, fun _ => hjn⟩, rfl⟩
      · have f1 : decide ((j : Int) < (s.nl.length : Int)) = false := by simpa using hjn
        go_wp2_with fail
        go_meet
        exact ⟨⟨_, rfl, fun h => (by cases h)⟩, rfl⟩
    obtain ⟨⟨b', rfl, hb'⟩, rfl⟩ := hcut
    cases b'
    · clear hb' hbx hst q3 q6
      have hp0 := HP.out
      have hc0 := hc
      clear HP hc h8 hj8
      go_wp2_with fail
      go_loopw [3, 7, 8, 9] (fun nv _ _ _ w' => ∃ (m : Int) (out : List EvF) (s : StV), nv = .int .i64 m ∧ PenS w' p b out s v n ∧ Chg (· = p) w w') (fun _ _ _ _ w' => 200 - (idAt w' p).toNat)
      case atStart => exact ⟨m, out, s, rfl, hp0, hc0⟩
      case round =>
        clear hp0 hc0
        obtain ⟨m, out, s, rfl, hp, hc⟩ := hrel
        obtain ⟨O, oc, hbx, _⟩ := hp.ex
        have hst := hp.st wr (Chg.refl _ _)
        have htl := hp.tl
        have hidm := hp.idAt
        unfold penRow at hbx
        have q3 : wr.cell? ⟨p, 3, none⟩ = some (.int .i64 s.cl) := hbx.cell 3 rfl
        have HP := Lib.hid hp
        have HTM := Lib.hid hst.tm
        have HID := Lib.hid hidm
        have h8 := htl.1
        have HTL := Lib.hid htl.2
        have HBX := Lib.hid hbx
        clear hp hst hidm htl hbx
        by_cases hcl : s.cl = 0
        rotate_left
        · have f1 : (s.cl == 0) = false := by simpa using hcl
          have f2 : decide (s.cl = 0) = false := by simpa using hcl
          clear hcl
          go_wp2_with fail
          go_ret
          exact Stepped.to HP.out hc _
        have f1 : (s.cl == 0) = true := by simpa using hcl
        have f2 : decide (s.cl = 0) = true := by simpa using hcl
        clear hcl
        go_wp2_with fail
        clear q3
        go_loopw [7, 8, 9] (fun kv i _ w2 => ∃ j : Nat, i = .int .i64 j ∧ j ≤ s.tl.length ∧ (kv = .int .i64 (-1) ∨ ∃ k : Nat, kv = .int .i64 k ∧ k < s.tl.length) ∧ Chg (fun _ => False) wr w2) (fun _ i _ _ => s.tl.length - (intOf i).toNat)
        case atStart => exact ⟨0, rfl, by omega, .inl rfl, Chg.refl _ _⟩
        case round =>
          obtain ⟨j, rfl, hjl, hk, hcj⟩ := hrel
          have hc2 := hc.trans (hcj.mono (T := (· = p)) (fun x h => h.elim)) (fun x hx => .inl hx)
          have bx2 := HBX.out.keep hcj (fun h => h)
          have hr := HTM.out.keep hcj (fun _ _ h => h)
          have q7 : wr.cell? ⟨p, 7, none⟩ = some (.slice s.T s.tl.length s.tc) := bx2.cell 7 rfl
          clear bx2
          by_cases hjn : j < s.tl.length
          · obtain ⟨b5, o5, hT, _⟩ := hr.at_ (k := 0) (by rw [tmC_len]; omega)
            obtain ⟨p0, p1, p2⟩ := tmC_get s.tl j hjn
            obtain ⟨x, hx⟩ : ∃ x, x = s.tl[j] := ⟨_, rfl⟩
            rw [← hx] at p0 p1 p2
            have c0 := hr.cells hT _ _ p0
            have c1 := hr.cells hT _ _ p1
            have c2 := hr.cells hT _ _ p2
            rw [← Nat.add_assoc] at c1 c2
            have hT' := hT
            rw [hT] at q7
            have j0 : (0 : Int) ≤ (j : Int) := by omega
            have j1 : (j : Int) < (s.tl.length : Int) := by omega
            clear hx p0 p1 p2 hT
            have bx := BoxAt.new wr 129 #[.string x.nm, .int .i64 x.du, .bool x.fi]
            have hca : Chg (fun _ => False) wr (wr.alloc (.cells #[.string x.nm, .int .i64 x.du, .bool x.fi] 129)) := (Chg.refl _ _).alloc _
            go_upto_region 17 with fail
            obtain ⟨wx, hwx⟩ : ∃ wx, wx = wr.alloc (.cells #[.string x.nm, .int .i64 x.du, .bool x.fi] 129) := ⟨_, rfl⟩
            rw [← hwx] at bx hca ⊢
            clear hwx c0 c1 c2
            obtain ⟨gx, hgx⟩ : ∃ gx, gx = wr.heap.size := ⟨_, rfl⟩
            rw [← hgx] at bx ⊢
            clear hgx
            have hcx := hcj.trans hca (fun x hx => hx.elim)
            have x0 : wx.cell? ⟨gx, 0, none⟩ = some (.string x.nm) := bx.cell 0 rfl
            have x1 : wx.cell? ⟨gx, 1, none⟩ = some (.int .i64 x.du) := bx.cell 1 rfl
            have x2 : wx.cell? ⟨gx, 2, none⟩ = some (.bool x.fi) := bx.cell 2 rfl
            have q7' := hca.cell_some q7 (fun h => h)
            go_cut [96] from 71 to 95 (fun r w' => (∃ b' : Bool, r = .bool b') ∧ w' = wx)
            case first =>
              obtain ⟨fi, hfi⟩ : ∃ fi, fi = x.fi := ⟨_, rfl⟩
              rw [← hfi] at x2
              clear hfi
              cases fi
              all_goals
                go_wp2_with fail
                go_meet
                exact ⟨⟨_, rfl⟩, rfl⟩
            obtain ⟨⟨b', rfl⟩, rfl⟩ := hcut
            cases b'
            rotate_left
            · go_wp2_with fail
              go_roundw
              case rel => exact ⟨j + 1, by go_num, by omega, hk, hcx⟩
              case measure => simp [intOf]; omega
            go_upto_region 18 with fail
            go_cut [140] from 71 to 139 (fun r w' => (∃ b' : Bool, r = .bool b') ∧ Chg (fun _ => False) wc w')
            case first =>
              rcases hk with rfl | ⟨k, rfl, hkl⟩
              · have f3 : decide ((-1 : Int) < 0) = true := by decide
                go_quiet (fail)
                go_wp2_with fail
                go_meet
                exact ⟨⟨_, rfl⟩, (Chg.refl _ _).drewN _⟩
              · have f3 : decide ((k : Int) < 0) = false := by simp
                have k0 : (0 : Int) ≤ (k : Int) := by omega
                have k1 : (k : Int) < (s.tl.length : Int) := by omega
                obtain ⟨p0, p1, p2⟩ := tmC_get s.tl k hkl
                obtain ⟨y, hy⟩ : ∃ y, y = s.tl[k] := ⟨_, rfl⟩
                rw [← hy] at p0 p1 p2
                have hr2 := hr.keep hca (fun _ _ h => h)
                have d0 := hr2.cells hT' _ _ p0
                have d1 := hr2.cells hT' _ _ p1
                rw [← Nat.add_assoc] at d1
                clear hy p0 p1 p2 hr2
                obtain ⟨xd, hxd⟩ : ∃ xd, xd = x.du := ⟨_, rfl⟩
                rw [← hxd] at x1
                clear hxd
                obtain ⟨yn, yd, yf⟩ := y
                simp only at d0 d1
                by_cases h1 : xd < yd
                · have f4 : decide (xd < yd) = true := by simpa using h1
                  clear h1
                  go_quiet (fail)
                  go_wp2_with fail
                  go_meet
                  exact ⟨⟨_, rfl⟩, (Chg.refl _ _).drewN _⟩
                · have f4 : decide (xd < yd) = false := by simpa using h1
                  clear h1
                  by_cases h2 : xd = yd
                  · subst h2
                    go_quiet (fail)
                    go_wp2_with fail
                    go_meet
                    exact ⟨⟨_, rfl⟩, (Chg.refl _ _).drewN _⟩
                  · have f5 : (xd == yd) = false := by simpa using h2
                    have f6 : decide (xd = yd) = false := by simpa using h2
                    clear h2
                    go_quiet (fail)
                    go_wp2_with fail
                    go_meet
                    exact ⟨⟨_, rfl⟩, (Chg.refl _ _).drewN _⟩
            obtain ⟨⟨b', rfl⟩, hcY⟩ := hcut
            have hcz := hcx.trans hcY (fun x hx => hx.elim)
            cases b'
            · go_wp2_with fail
              go_roundw
              case rel => exact ⟨j + 1, by go_num, by omega, hk, hcz⟩
              case measure => simp [intOf]; omega
            · go_wp2_with fail
              go_roundw
              case rel => exact ⟨j + 1, by go_num, by omega, .inr ⟨j, rfl, hjn⟩, hcz⟩
              case measure => simp [intOf]; omega
          · have j1 : ¬ (j : Int) < (s.tl.length : Int) := by omega
            have hpr := HP.out.keep hcj
            rcases hk with rfl | ⟨k, rfl, hkl⟩
            · have f3 : decide ((-1 : Int) < 0) = true := by decide
              go_wp2_with fail
              go_ret
              exact Stepped.to hpr hc2 _
            · have f3 : decide ((k : Int) < 0) = false := by simp
              have k0 : (0 : Int) ≤ (k : Int) := by omega
              have k1 : (k : Int) < (s.tl.length : Int) := by omega
              obtain ⟨b5, o5, hT, _⟩ := hr.at_ (k := 0) (by rw [tmC_len]; omega)
              have c0 := hr.cells hT _ _ (tmC_get s.tl k hkl).1
              have hnm := HTL.out s.tl[k] (List.getElem_mem _)
              obtain ⟨nm, hnme⟩ : ∃ nm, nm = s.tl[k].nm := ⟨_, rfl⟩
              rw [← hnme] at c0 hnm
              rw [hT] at q7
              have hw2 := write_fired p b out s v n nm wr hpr hnm
              clear hnme hT hr
              go_upto_if 158 with (go_at_call 94; (with_reducible refine hw2.mono ?_); rintro e w3 ⟨k2, out', s', rfl, hp2, hc4, hup⟩; have HP2 := Lib.hid hp2; have HUP := Lib.hid hup; clear hp2 hup)
              have hc5 := hc2.trans hc4 (fun x hx => .inl hx)
              by_cases hk2 : k2 = 0
              · subst hk2
                go_wp2_with fail
                go_roundw
                case rel => exact ⟨_, out', s', rfl, HP2.out, hc5⟩
                case measure =>
                  have h1 := HUP.out rfl
                  have h2 := HP2.out.idAt
                  have h3 := HP2.out.id2
                  have h4 := HP.out.id0
                  rw [h2]
                  have h5 := HID.out
                  omega
              · have f6 : (k2 != 0) = true := by simpa using hk2
                have f7 : decide (k2 = 0) = false := by simpa using hk2
                clear hk2
                go_wp2_with fail
                go_ret
                exact Stepped.to HP2.out hc5 _
    · have hjn := hb' rfl
      clear hb'
      obtain ⟨b5, o5, hN, _⟩ := hst.nd.at_ (k := 0) (by rw [ndC_len]; omega)
      obtain ⟨p0, p1, p2, p3⟩ := ndC_get s.nl j hjn
      obtain ⟨x, hx⟩ : ∃ x, x = s.nl[j] := ⟨_, rfl⟩
      rw [← hx] at p0 p1 p2 p3
      have c0 := hst.nd.cells hN _ _ p0
      have c1 := hst.nd.cells hN _ _ p1
      have c2 := hst.nd.cells hN _ _ p2
      have c3 := hst.nd.cells hN _ _ p3
      rw [← Nat.add_assoc] at c1 c2 c3
      rw [hN] at q6
      clear hx p0 p1 p2 p3 hN hst hbx
      have j0 : (0 : Int) ≤ (j : Int) := by omega
      have j1 : (j : Int) < (s.nl.length : Int) := by omega
      have bx := BoxAt.new wc 114 #[.int .i64 x.st, .int .i64 x.tr, .int .i64 x.du, .slice x.A x.n x.c]
      have hca : Chg (fun _ => False) wc (wc.alloc (.cells #[.int .i64 x.st, .int .i64 x.tr, .int .i64 x.du, .slice x.A x.n x.c] 114)) := (Chg.refl _ _).alloc _
      go_upto_region 7 with fail
      obtain ⟨wx, hwx⟩ : ∃ wx, wx = wc.alloc (.cells #[.int .i64 x.st, .int .i64 x.tr, .int .i64 x.du, .slice x.A x.n x.c] 114) := ⟨_, rfl⟩
      rw [← hwx] at bx hca ⊢
      clear hwx c0 c1 c2 c3 q3 q6
      obtain ⟨gx, hgx⟩ : ∃ gx, gx = wc.heap.size := ⟨_, rfl⟩
      rw [← hgx] at bx ⊢
      clear hgx
      have hpx := HP.out.keep hca
      have hcx := hc.trans hca (fun x hx => hx.elim)
      have x1 : wx.cell? ⟨gx, 1, none⟩ = some (.int .i64 x.tr) := bx.cell 1 rfl
      go_cut [54] from 20 to 53 (fun r w' => (∃ b' : Bool, r = .bool b') ∧ w' = wx)
      case first =>
        have x0 : wx.cell? ⟨gx, 0, none⟩ = some (.int .i64 x.st) := bx.cell 0 rfl
        have x2 : wx.cell? ⟨gx, 2, none⟩ = some (.int .i64 x.du) := bx.cell 2 rfl
        obtain ⟨st, hst⟩ : ∃ st, st = x.st := ⟨_, rfl⟩
        rw [← hst] at x0
        clear hst
        by_cases hst : st = 1
        · have f0 : (st != 1) = false := by simpa using hst
          have f2 : decide (st = 1) = true := by simpa using hst
          clear hst
          go_wp2_with fail
          go_meet
          exact ⟨⟨_, rfl⟩, rfl⟩
        · have f0 : (st != 1) = true := by simpa using hst
          have f2 : decide (st = 1) = false := by simpa using hst
          clear hst
          go_wp2_with fail
          go_meet
          exact ⟨⟨_, rfl⟩, rfl⟩
      obtain ⟨⟨b', rfl⟩, rfl⟩ := hcut
      cases b'
      rotate_left
      · go_wp2_with fail
        go_roundw
        case rel => exact ⟨j + 1, m, out, s, rfl, by go_num, by omega, hpx, hcx⟩
        case measure => simp [intOf]; omega
      · have hw2 := write_broke p b out s v n j x.tr wc hpx
        go_upto_if 61 with (go_at_call 94; (with_reducible refine hw2.mono ?_); rintro e w3 ⟨k, out', s', rfl, hp2, hc4, _⟩; have HP2 := Lib.hid hp2; clear hp2)
        have hc5 := hcx.trans hc4 (fun x hx => .inl hx)
        by_cases hk : k = 0
        · subst hk
          go_wp2_with fail
          go_roundw
          case rel => exact ⟨j + 1, _, out', s', rfl, by go_num, by omega, HP2.out, hc5⟩
          case measure => simp [intOf]; omega
        · have f3 : (k != 0) = true := by simpa using hk
          have f4 : decide (k = 0) = false := by simpa using hk
          clear hk
          go_wp2_with fail
          go_ret
          exact Stepped.to HP2.out hc5 _
end Go.Proofs.YtngfimjbgopgjaaGreatDoor
