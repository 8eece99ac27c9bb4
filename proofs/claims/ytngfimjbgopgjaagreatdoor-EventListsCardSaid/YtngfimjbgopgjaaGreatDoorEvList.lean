/- Contracts of event.Line, SameAll, LayAll, and of cutoverref8.SameAll, at any events (gen_evlist.py). -/
import Derived.Test.YtngfimjbgopgjaaGreatDoorEvOwnAll
import Derived.Test.YtngfimjbgopgjaaGreatDoorRfSameE
import Derived.BigQuiet
import Derived.Deep.CutBlock
import Derived.Deep.DeepCutAuto
namespace Go.Proofs.YtngfimjbgopgjaaGreatDoor
open Go.RowKit
set_option linter.unusedVariables false

theorem right_s (f : EvF) (w : World) (h : EvS w f) : Calls Tryz.prog 28 #[.agg #[.int .i64 f.id, .int .i64 f.ver, .int .i64 f.tm, .int .i64 f.ty, .int .i64 f.node, .int .i64 f.m, .string f.nm, .slice f.A f.bs.length f.c, .slice f.D f.dl.length f.dc]] w fun e w' => e = .returned (.bool f.right) ∧ Chg (fun _ => False) w w' :=
  rightE_any f.id f.ver f.tm f.ty f.node f.m f.nm f.A f.bs.length f.c f.D f.dl.length f.dc f.dl w (by have := h.rdy.nm; omega) h.rdy.ds rfl (by have := h.rdy.dn; omega) (fun d hd => by have := h.rdy.ns d hd; omega)
theorem lay_s (f : EvF) (w : World) (h : EvS w f) : Calls Tryz.prog 22 #[.agg #[.int .i64 f.id, .int .i64 f.ver, .int .i64 f.tm, .int .i64 f.ty, .int .i64 f.node, .int .i64 f.m, .string f.nm, .slice f.A f.bs.length f.c, .slice f.D f.dl.length f.dc]] w (LayGave w f) := lay_f f w h.rdy
theorem same_s (f g : EvF) (w : World) (h : EvS w f) (h' : EvS w g) : Calls Tryz.prog 32 #[.agg #[.int .i64 f.id, .int .i64 f.ver, .int .i64 f.tm, .int .i64 f.ty, .int .i64 f.node, .int .i64 f.m, .string f.nm, .slice f.A f.bs.length f.c, .slice f.D f.dl.length f.dc], .agg #[.int .i64 g.id, .int .i64 g.ver, .int .i64 g.tm, .int .i64 g.ty, .int .i64 g.node, .int .i64 g.m, .string g.nm, .slice g.A g.bs.length g.c, .slice g.D g.dl.length g.dc]] w fun e w' => (∃ b : Bool, e = .returned (.bool b) ∧ (b = true ↔ f.v = g.v)) ∧ Chg (fun _ => False) w w' := same_f f g w h.rdy h'.rdy
theorem rsame_s (f g : EvF) (w : World) (h : EvS w f) (h' : EvS w g) : Calls Tryz.prog 41 #[.agg #[.int .i64 f.id, .int .i64 f.ver, .int .i64 f.tm, .int .i64 f.ty, .int .i64 f.node, .int .i64 f.m, .string f.nm, .slice f.A f.bs.length f.c, .slice f.D f.dl.length f.dc], .agg #[.int .i64 g.id, .int .i64 g.ver, .int .i64 g.tm, .int .i64 g.ty, .int .i64 g.node, .int .i64 g.m, .string g.nm, .slice g.A g.bs.length g.c, .slice g.D g.dl.length g.dc]] w fun e w' => (∃ b : Bool, e = .returned (.bool b) ∧ (b = true ↔ f.v = g.v)) ∧ Chg (fun _ => False) w w' := rsame_f f g w h.rdy h'.rdy h.byt h'.byt
theorem map_v_step {l m : List EvF} {k : Nat} (h : (l.map EvF.v).take k = (m.map EvF.v).take k) (h1 : k < l.length) (h2 : k < m.length) (e : l[k].v = m[k].v) : (l.map EvF.v).take (k + 1) = (m.map EvF.v).take (k + 1) := by
  rw [List.take_add_one, List.take_add_one, h, List.getElem?_map, List.getElem?_map, List.getElem?_eq_getElem h1, List.getElem?_eq_getElem h2]
  simp [e]
theorem map_v_no {l m : List EvF} {k : Nat} (h1 : k < l.length) (h2 : k < m.length) (hne : ¬ l[k].v = m[k].v) : ¬ l.map EvF.v = m.map EvF.v := fun e => hne (by
  have e2 : (l.map EvF.v)[k]? = (m.map EvF.v)[k]? := by rw [e]
  rw [List.getElem?_map, List.getElem?_map, List.getElem?_eq_getElem h1, List.getElem?_eq_getElem h2] at e2
  exact Option.some.inj e2)
theorem map_v_len {l m : List EvF} (h : ¬ l.length = m.length) : ¬ l.map EvF.v = m.map EvF.v := fun e => h (by simpa using congrArg List.length e)
theorem map_v_all {l m : List EvF} {k : Nat} (h : (l.map EvF.v).take k = (m.map EvF.v).take k) (h1 : k = l.length) (h2 : k = m.length) : l.map EvF.v = m.map EvF.v := by
  rwa [List.take_of_length_le (by rw [List.length_map]; omega), List.take_of_length_le (by rw [List.length_map]; omega)] at h
/-- A yes or a no that tells P. -/
def Tells2 (P : Prop) (w : World) (e : Ending) (w' : World) : Prop := (∃ b : Bool, e = .returned (.bool b) ∧ (b = true ↔ P)) ∧ Chg (fun _ => False) w w'
theorem Tells2.yes {P : Prop} {w w' : World} (h : P) (hc : Chg (fun _ => False) w w') : Tells2 P w (.returned (.bool true)) w' := ⟨⟨true, rfl, ⟨fun _ => h, fun _ => rfl⟩⟩, hc⟩
theorem Tells2.no {P : Prop} {w w' : World} (h : ¬ P) (hc : Chg (fun _ => False) w w') : Tells2 P w (.returned (.bool false)) w' := ⟨⟨false, rfl, ⟨fun e => Bool.noConfusion e, fun e => absurd e h⟩⟩, hc⟩

set_option maxHeartbeats 4000000 in
set_option maxRecDepth 20000 in
theorem rsameAll_any (A B : Option Addr) (c d : Nat) (l m : List EvF) (w : World) (ha : RdEv w A l) (hb : RdEv w B m) (hl : l.length ≤ 1048576) (hm : m.length ≤ 1048576) :
    Calls Tryz.prog 15 #[.slice A l.length c, .slice B m.length d] w (Tells2 (l.map EvF.v = m.map EvF.v) w) := by
  obtain ⟨ln, hln⟩ : ∃ ln, ln = l.length := ⟨_, rfl⟩
  obtain ⟨mn, hmn⟩ : ∃ mn, mn = m.length := ⟨_, rfl⟩
  have HA := Lib.hid ha
  have HB := Lib.hid hb
  have HLN := Lib.hid hln
  have HMN := Lib.hid hmn
  rw [← hln] at hl ⊢
  rw [← hmn] at hm ⊢
  clear ha hb hln hmn
  by_cases hlen : ln = mn
  rotate_left
  · have hd : decide (ln = mn) = false := by simpa using hlen
    have hnq : ((ln : Int) != (mn : Int)) = true := by simp; omega
    have HNO := Lib.hid (map_v_len (l := l) (m := m) (by rw [← HLN.out, ← HMN.out]; exact hlen))
    clear hlen
    go_enter Tryz.func15, Tryz.ntmps15
    go_wp2_with fail
    go_ret
    exact Tells2.no HNO.out (Chg.refl _ _)
  have hd : decide (ln = mn) = true := by simpa using hlen
  have hnq : ((ln : Int) != (mn : Int)) = false := by simp; omega
  have HLEN := Lib.hid hlen
  clear hlen
  go_enter Tryz.func15, Tryz.ntmps15
  go_wp2_with fail
  go_loopw [5] (fun i w' => ∃ k : Nat, k ≤ ln ∧ i = .int .i64 k ∧ (l.map EvF.v).take k = (m.map EvF.v).take k ∧ Chg (fun _ => False) w w') (fun i _ => ln - (intOf i).toNat)
  case atStart => exact ⟨0, Nat.zero_le _, rfl, by simp, Chg.refl _ _⟩
  case round =>
    obtain ⟨k, hk, rfl, ht, hc⟩ := hrel
    have HT := Lib.hid ht
    clear ht
    by_cases hkn : k < ln
    · have hkl : k < l.length := by rw [← HLN.out]; exact hkn
      have hkm : k < m.length := by rw [← HMN.out, ← HLEN.out]; exact hkn
      have hkmn : k < mn := by rw [← HLEN.out]; exact hkn
      have hAr := HA.out.still hc
      have hBr := HB.out.still hc
      obtain ⟨b, o, hA, _⟩ := hAr.rd.at_ (k := 0) (by rw [eoC_len]; omega)
      obtain ⟨b', o', hB, _⟩ := hBr.rd.at_ (k := 0) (by rw [eoC_len]; omega)
      obtain ⟨p0, p1, p2, p3, p4, p5, p6, p7, p8⟩ := eoC_get l k hkl
      have r0 := hAr.rd.cells hA _ _ p0
      have r1 := hAr.rd.cells hA _ _ p1
      have r2 := hAr.rd.cells hA _ _ p2
      have r3 := hAr.rd.cells hA _ _ p3
      have r4 := hAr.rd.cells hA _ _ p4
      have r5 := hAr.rd.cells hA _ _ p5
      have r6 := hAr.rd.cells hA _ _ p6
      have r7 := hAr.rd.cells hA _ _ p7
      have r8 := hAr.rd.cells hA _ _ p8
      rw [← Nat.add_assoc] at r1 r2 r3 r4 r5 r6 r7 r8
      clear p0 p1 p2 p3 p4 p5 p6 p7 p8
      obtain ⟨p0, p1, p2, p3, p4, p5, p6, p7, p8⟩ := eoC_get m k hkm
      have s0 := hBr.rd.cells hB _ _ p0
      have s1 := hBr.rd.cells hB _ _ p1
      have s2 := hBr.rd.cells hB _ _ p2
      have s3 := hBr.rd.cells hB _ _ p3
      have s4 := hBr.rd.cells hB _ _ p4
      have s5 := hBr.rd.cells hB _ _ p5
      have s6 := hBr.rd.cells hB _ _ p6
      have s7 := hBr.rd.cells hB _ _ p7
      have s8 := hBr.rd.cells hB _ _ p8
      rw [← Nat.add_assoc] at s1 s2 s3 s4 s5 s6 s7 s8
      clear p0 p1 p2 p3 p4 p5 p6 p7 p8
      have hx := hAr.ev l[k] (List.getElem_mem _)
      have hy := hBr.ev m[k] (List.getElem_mem _)
      have HST := Lib.hid (map_v_step HT.out hkl hkm)
      have HNO := Lib.hid (map_v_no hkl hkm)
      obtain ⟨x, hxe⟩ : ∃ x, x = l[k] := ⟨_, rfl⟩
      obtain ⟨y, hye⟩ : ∃ y, y = m[k] := ⟨_, rfl⟩
      rw [← hxe] at r0 r1 r2 r3 r4 r5 r6 r7 r8 hx HST HNO
      rw [← hye] at s0 s1 s2 s3 s4 s5 s6 s7 s8 hy HST HNO
      clear hxe hye hAr hBr
      subst hA hB
      have j0 : (0 : Int) ≤ (k : Int) := by omega
      have j1 : (k : Int) < (ln : Int) := by omega
      have j2 : (k : Int) < (mn : Int) := by omega
      have HX := Lib.hid hx
      have HY := Lib.hid hy
      clear hx hy
      go_upto_region 6 with fail
      go_cut [26] from 17 to 25 (fun r w' => (∃ bb : Bool, r = .bool (!bb) ∧ (bb = true ↔ x.v = y.v)) ∧ Chg (fun _ => False) wr w')
      case first =>
        have hcall := rsame_s x y wr.drew (HX.out.still (Chg.refl _ _).drew) (HY.out.still (Chg.refl _ _).drew)
        have hS : ∀ w', Chg (fun _ => False) wr w' → w'.cell? ⟨b, o + k * 9, none⟩ = some (.int .i64 x.id) ∧ w'.cell? ⟨b, o + k * 9 + 1, none⟩ = some (.int .i64 x.ver) ∧ w'.cell? ⟨b, o + k * 9 + 2, none⟩ = some (.int .i64 x.tm) ∧ w'.cell? ⟨b, o + k * 9 + 3, none⟩ = some (.int .i64 x.ty) ∧ w'.cell? ⟨b, o + k * 9 + 4, none⟩ = some (.int .i64 x.node) ∧ w'.cell? ⟨b, o + k * 9 + 5, none⟩ = some (.int .i64 x.m) ∧ w'.cell? ⟨b, o + k * 9 + 6, none⟩ = some (.string x.nm) ∧ w'.cell? ⟨b, o + k * 9 + 7, none⟩ = some (.slice x.A x.bs.length x.c) ∧ w'.cell? ⟨b, o + k * 9 + 8, none⟩ = some (.slice x.D x.dl.length x.dc) ∧ w'.cell? ⟨b', o' + k * 9, none⟩ = some (.int .i64 y.id) ∧ w'.cell? ⟨b', o' + k * 9 + 1, none⟩ = some (.int .i64 y.ver) ∧ w'.cell? ⟨b', o' + k * 9 + 2, none⟩ = some (.int .i64 y.tm) ∧ w'.cell? ⟨b', o' + k * 9 + 3, none⟩ = some (.int .i64 y.ty) ∧ w'.cell? ⟨b', o' + k * 9 + 4, none⟩ = some (.int .i64 y.node) ∧ w'.cell? ⟨b', o' + k * 9 + 5, none⟩ = some (.int .i64 y.m) ∧ w'.cell? ⟨b', o' + k * 9 + 6, none⟩ = some (.string y.nm) ∧ w'.cell? ⟨b', o' + k * 9 + 7, none⟩ = some (.slice y.A y.bs.length y.c) ∧ w'.cell? ⟨b', o' + k * 9 + 8, none⟩ = some (.slice y.D y.dl.length y.dc) := fun w' hw => ⟨hw.cell_some r0 (fun h => h), hw.cell_some r1 (fun h => h), hw.cell_some r2 (fun h => h), hw.cell_some r3 (fun h => h), hw.cell_some r4 (fun h => h), hw.cell_some r5 (fun h => h), hw.cell_some r6 (fun h => h), hw.cell_some r7 (fun h => h), hw.cell_some r8 (fun h => h), hw.cell_some s0 (fun h => h), hw.cell_some s1 (fun h => h), hw.cell_some s2 (fun h => h), hw.cell_some s3 (fun h => h), hw.cell_some s4 (fun h => h), hw.cell_some s5 (fun h => h), hw.cell_some s6 (fun h => h), hw.cell_some s7 (fun h => h), hw.cell_some s8 (fun h => h)⟩
        have HS := Lib.hid hS
        have k0 : Chg (fun _ => False) wr wr.drew := (Chg.refl _ _).drew
        clear hS r0 r1 r2 r3 r4 r5 r6 r7 r8 s0 s1 s2 s3 s4 s5 s6 s7 s8
        go_region_held3 (fun w' => w'.cell? ⟨b, o + k * 9, none⟩ = some (.int .i64 x.id) ∧ w'.cell? ⟨b, o + k * 9 + 1, none⟩ = some (.int .i64 x.ver) ∧ w'.cell? ⟨b, o + k * 9 + 2, none⟩ = some (.int .i64 x.tm) ∧ w'.cell? ⟨b, o + k * 9 + 3, none⟩ = some (.int .i64 x.ty) ∧ w'.cell? ⟨b, o + k * 9 + 4, none⟩ = some (.int .i64 x.node) ∧ w'.cell? ⟨b, o + k * 9 + 5, none⟩ = some (.int .i64 x.m) ∧ w'.cell? ⟨b, o + k * 9 + 6, none⟩ = some (.string x.nm) ∧ w'.cell? ⟨b, o + k * 9 + 7, none⟩ = some (.slice x.A x.bs.length x.c) ∧ w'.cell? ⟨b, o + k * 9 + 8, none⟩ = some (.slice x.D x.dl.length x.dc) ∧ w'.cell? ⟨b', o' + k * 9, none⟩ = some (.int .i64 y.id) ∧ w'.cell? ⟨b', o' + k * 9 + 1, none⟩ = some (.int .i64 y.ver) ∧ w'.cell? ⟨b', o' + k * 9 + 2, none⟩ = some (.int .i64 y.tm) ∧ w'.cell? ⟨b', o' + k * 9 + 3, none⟩ = some (.int .i64 y.ty) ∧ w'.cell? ⟨b', o' + k * 9 + 4, none⟩ = some (.int .i64 y.node) ∧ w'.cell? ⟨b', o' + k * 9 + 5, none⟩ = some (.int .i64 y.m) ∧ w'.cell? ⟨b', o' + k * 9 + 6, none⟩ = some (.string y.nm) ∧ w'.cell? ⟨b', o' + k * 9 + 7, none⟩ = some (.slice y.A y.bs.length y.c) ∧ w'.cell? ⟨b', o' + k * 9 + 8, none⟩ = some (.slice y.D y.dl.length y.dc)) (first | with_reducible exact HS.out _ k2 | with_reducible exact HS.out _ k0) (first
          | (go_at_call 41; (with_reducible refine hcall.mono ?_); rintro e w2 ⟨⟨bb, rfl, hbb⟩, hc2⟩; have HBB := Lib.hid hbb; clear hbb; have k2 := k0.trans hc2 (fun x hx => hx.elim))
          | fail)
        all_goals
          go_wp2_with fail
          go_meet
          exact ⟨⟨bb, rfl, HBB.out⟩, k2⟩
      obtain ⟨⟨bb, rfl, hbb⟩, hcX⟩ := hcut
      have HBB := Lib.hid hbb
      have hcF := hc.trans hcX (fun x hx => hx.elim)
      clear hbb
      cases bb
      · have HN2 := Lib.hid (HNO.out (fun e => Bool.noConfusion (HBB.out.2 e)))
        go_wp2_with fail
        go_ret
        exact Tells2.no HN2.out hcF
      · have HS2 := Lib.hid (HST.out (HBB.out.1 rfl))
        go_wp2_with fail
        go_roundw
        case rel => exact ⟨k + 1, by omega, by go_num, HS2.out, hcF⟩
        case measure => simp [intOf]; omega
    · have hke : k = ln := by omega
      have HE := Lib.hid (map_v_all HT.out (by rw [hke, HLN.out]) (by rw [hke, HLEN.out, HMN.out]))
      have j1 : ¬ (k : Int) < (ln : Int) := by omega
      clear hke
      go_wp2_with fail
      go_ret
      exact Tells2.yes HE.out hc

set_option maxHeartbeats 8000000 in
set_option maxRecDepth 20000 in
theorem line_any (A : Option Addr) (c : Nat) (l : List EvF) (w : World) (h : RdEv w A l) (hl : l.length ≤ 1048576) :
    Calls Tryz.prog 9 #[.slice A l.length c] w (Tells2 (IsLine l) w) := by
  obtain ⟨n, hn⟩ : ∃ n, n = l.length := ⟨_, rfl⟩
  have HR := Lib.hid h
  have HN := Lib.hid hn
  rw [← hn] at hl ⊢
  clear h hn
  go_enter Tryz.func9, Tryz.ntmps9
  go_wp2_with fail
  go_loopw [7] (fun i w' => ∃ k : Nat, k ≤ n ∧ i = .int .i64 k ∧ LineTo l k ∧ Chg (fun _ => False) w w') (fun i _ => n - (intOf i).toNat)
  case atStart => exact ⟨0, Nat.zero_le _, rfl, LineTo.zero l, Chg.refl _ _⟩
  case round =>
    obtain ⟨k, hk, rfl, hlt, hc⟩ := hrel
    have HLT := Lib.hid hlt
    clear hlt
    by_cases hkn : k < n
    rotate_left
    · have hke : l.length = k := by rw [← HN.out]; omega
      have HE := Lib.hid (show IsLine l by unfold IsLine; rw [hke]; exact HLT.out)
      have j1 : ¬ (k : Int) < (n : Int) := by omega
      clear hke
      go_wp2_with fail
      go_ret
      exact Tells2.yes HE.out hc
    have hkl : k < l.length := by rw [← HN.out]; exact hkn
    have hre := HR.out.still hc
    obtain ⟨b, o, hA, _⟩ := hre.rd.at_ (k := 0) (by rw [eoC_len]; omega)
    obtain ⟨p0, p1, p2, p3, p4, p5, p6, p7, p8⟩ := eoC_get l k hkl
    have q0 := hre.rd.cells hA _ _ p0
    have q1 := hre.rd.cells hA _ _ p1
    have q2 := hre.rd.cells hA _ _ p2
    have q3 := hre.rd.cells hA _ _ p3
    have q4 := hre.rd.cells hA _ _ p4
    have q5 := hre.rd.cells hA _ _ p5
    have q6 := hre.rd.cells hA _ _ p6
    have q7 := hre.rd.cells hA _ _ p7
    have q8 := hre.rd.cells hA _ _ p8
    rw [← Nat.add_assoc] at q1 q2 q3 q4 q5 q6 q7 q8
    clear p0 p1 p2 p3 p4 p5 p6 p7 p8
    have hx := hre.ev l[k] (List.getElem_mem _)
    have hkm : k - 1 < l.length := by omega
    obtain ⟨g, hg⟩ : ∃ g, g = l[k - 1] := ⟨_, rfl⟩
    have hno : ¬ (l[k].right = true ∧ (0 < k → l[k].id = g.id + 1 ∧ g.ver ≤ l[k].ver ∧ g.tm ≤ l[k].tm)) → ¬ IsLine l := fun hb hL => hb (by rw [hg]; exact hL k hkl hkl)
    have hyes : (l[k].right = true ∧ (0 < k → l[k].id = g.id + 1 ∧ g.ver ≤ l[k].ver ∧ g.tm ≤ l[k].tm)) → LineTo l (k + 1) := fun hb => HLT.out.succ hkl hb.1 (by rw [hg] at hb; exact hb.2)
    have hpre : 0 < k → g.right = true ∧ (∀ u, Chg (fun _ => False) wr u → u.cell? ⟨b, o + (k - 1) * 9, none⟩ = some (.int .i64 g.id) ∧ u.cell? ⟨b, o + (k - 1) * 9 + 1, none⟩ = some (.int .i64 g.ver) ∧ u.cell? ⟨b, o + (k - 1) * 9 + 2, none⟩ = some (.int .i64 g.tm)) := fun h0 => by
      rw [hg]
      refine ⟨(HLT.out (k - 1) (by omega) (by omega)).1, fun u hu => ?_⟩
      have hru := hre.still hu
      obtain ⟨p0, p1, p2, p3, p4, p5, p6, p7, p8⟩ := eoC_get l (k - 1) hkm
      have r0 := hru.rd.cells hA _ _ p0
      have r1 := hru.rd.cells hA _ _ p1
      have r2 := hru.rd.cells hA _ _ p2
      rw [← Nat.add_assoc] at r1 r2
      exact ⟨r0, r1, r2⟩
    clear hg hkm
    obtain ⟨f, hf⟩ : ∃ f, f = l[k] := ⟨_, rfl⟩
    rw [← hf] at q0 q1 q2 q3 q4 q5 q6 q7 q8 hx hno hyes
    have HNO := Lib.hid hno
    have HYES := Lib.hid hyes
    have HPRE := Lib.hid hpre
    clear hno hyes hpre hf hre
    subst hA
    have j0 : (0 : Int) ≤ (k : Int) := by omega
    have j1 : (k : Int) < (n : Int) := by omega
    have bE := BoxAt.new wr 32 #[.int .i64 f.id, .int .i64 f.ver, .int .i64 f.tm, .int .i64 f.ty, .int .i64 f.node, .int .i64 f.m, .string f.nm, .slice f.A f.bs.length f.c, .slice f.D f.dl.length f.dc]
    have hcE : Chg (fun _ => False) wr (wr.alloc (.cells #[.int .i64 f.id, .int .i64 f.ver, .int .i64 f.tm, .int .i64 f.ty, .int .i64 f.node, .int .i64 f.m, .string f.nm, .slice f.A f.bs.length f.c, .slice f.D f.dl.length f.dc] 32)) := (Chg.refl _ _).alloc _
    have hcall := right_s f _ (hx.still hcE)
    obtain ⟨fr, hfr⟩ : ∃ fr, fr = f.right := ⟨_, rfl⟩
    rw [← hfr] at hcall
    have HFR := Lib.hid hfr
    have HCE := Lib.hid hcE
    clear hfr hx hcE
    obtain ⟨gE, hgE⟩ : ∃ gE, gE = wr.heap.size := ⟨_, rfl⟩
    obtain ⟨wE, hwE⟩ : ∃ wE, wE = wr.alloc (.cells #[.int .i64 f.id, .int .i64 f.ver, .int .i64 f.tm, .int .i64 f.ty, .int .i64 f.node, .int .i64 f.m, .string f.nm, .slice f.A f.bs.length f.c, .slice f.D f.dl.length f.dc] 32) := ⟨_, rfl⟩
    rw [← hwE] at hcall HCE bE
    rw [← hgE] at bE
    have t0 : wE.cell? ⟨gE, 0, none⟩ = some (.int .i64 f.id) := bE.cell 0 rfl
    have t1 : wE.cell? ⟨gE, 1, none⟩ = some (.int .i64 f.ver) := bE.cell 1 rfl
    have t2 : wE.cell? ⟨gE, 2, none⟩ = some (.int .i64 f.tm) := bE.cell 2 rfl
    have t3 : wE.cell? ⟨gE, 3, none⟩ = some (.int .i64 f.ty) := bE.cell 3 rfl
    have t4 : wE.cell? ⟨gE, 4, none⟩ = some (.int .i64 f.node) := bE.cell 4 rfl
    have t5 : wE.cell? ⟨gE, 5, none⟩ = some (.int .i64 f.m) := bE.cell 5 rfl
    have t6 : wE.cell? ⟨gE, 6, none⟩ = some (.string f.nm) := bE.cell 6 rfl
    have t7 : wE.cell? ⟨gE, 7, none⟩ = some (.slice f.A f.bs.length f.c) := bE.cell 7 rfl
    have t8 : wE.cell? ⟨gE, 8, none⟩ = some (.slice f.D f.dl.length f.dc) := bE.cell 8 rfl
    go_upto_region 4 with fail
    rw [← hgE]
    rw [← hwE]
    clear hwE hgE q0 q1 q2 q3 q4 q5 q6 q7 q8
    go_cut [14] from 8 to 13 (fun r w' => r = .bool (!fr) ∧ Chg (fun _ => False) wE w')
    case first =>
      go_wp2_with (go_at_call 28; (with_reducible refine hcall.mono ?_); rintro e w2 ⟨rfl, hc2⟩)
      go_meet
      exact ⟨rfl, hc2⟩
    obtain ⟨rfl, hc2⟩ := hcut
    obtain ⟨w2, hw2⟩ : ∃ w2, w2 = wc := ⟨_, rfl⟩
    rw [← hw2] at hc2 ⊢
    clear hw2
    have bE2 := bE.keep hc2 (fun h => h)
    have hcr := HCE.out.trans hc2 (fun x hx => hx.elim)
    have hcF := hc.trans hcr (fun x hx => hx.elim)
    clear t0 t1 t2 t3 t4 t5 t6 t7 t8 hcall
    cases fr
    · have HE := Lib.hid (HNO.out (fun e => by rw [← HFR.out] at e; exact Bool.noConfusion e.1))
      go_wp2_with fail
      go_ret
      exact Tells2.no HE.out hcF
    have t0 : w2.cell? ⟨gE, 0, none⟩ = some (.int .i64 f.id) := bE2.cell 0 rfl
    have t1 : w2.cell? ⟨gE, 1, none⟩ = some (.int .i64 f.ver) := bE2.cell 1 rfl
    have t2 : w2.cell? ⟨gE, 2, none⟩ = some (.int .i64 f.tm) := bE2.cell 2 rfl
    by_cases hk0 : k = 0
    · subst hk0
      have HE := Lib.hid (HYES.out ⟨HFR.out.symm, fun h0 => absurd h0 (by omega)⟩)
      have f3 : decide ((0 : Int) < ((0 : Nat) : Int)) = false := by simp
      go_upto_region 6 with fail
      go_quiet (fail)
      go_wp2_with fail
      go_roundw
      case rel => exact ⟨1, by omega, rfl, HE.out, hcF.drewN _⟩
      case measure => simp [intOf]; omega
    obtain ⟨k', rfl⟩ : ∃ k', k = k' + 1 := ⟨k - 1, by omega⟩
    obtain ⟨hgr, hgc⟩ := HPRE.out (by omega)
    obtain ⟨r0, r1, r2⟩ := hgc w2 hcr
    rw [show k' + 1 - 1 = k' by omega] at r0 r1 r2
    have hgid := (EvF.parts hgr).1
    have f3 : decide ((0 : Int) < ((k' + 1 : Nat) : Int)) = true := by simp
    have f4 : IntKind.i64.wrap (((k' + 1 : Nat) : Int) - 1) = (k' : Int) := by rw [show ((k' + 1 : Nat) : Int) - 1 = (k' : Int) by omega]; exact IntWalk.i64_in _ (by omega)
    have f4' : IntKind.i64.wrap ((k' : Int) + 1 - 1) = (k' : Int) := by rw [show ((k' : Int) + 1 - 1) = (k' : Int) by omega]; exact IntWalk.i64_in _ (by omega)
    have f5 : (0 : Int) ≤ (k' : Int) := by omega
    have f6 : (k' : Int) < (n : Int) := by omega
    have f7 : IntKind.i64.wrap (g.id + 1) = g.id + 1 := IntWalk.i64_in _ (by omega)
    have hbad : ¬ (f.id = g.id + 1 ∧ g.ver ≤ f.ver ∧ g.tm ≤ f.tm) → ¬ IsLine l := fun hb => HNO.out (fun e => hb (e.2 (by omega)))
    have hgood : (f.id = g.id + 1 ∧ g.ver ≤ f.ver ∧ g.tm ≤ f.tm) → LineTo l (k' + 1 + 1) := fun hb => HYES.out ⟨HFR.out.symm, fun _ => hb⟩
    have HBAD := Lib.hid hbad
    have HGOOD := Lib.hid hgood
    clear hbad hgood hgc hgr
    by_cases h1 : f.id = g.id + 1
    rotate_left
    · have HE := Lib.hid (HBAD.out (fun e => h1 e.1))
      have e1 : (f.id != g.id + 1) = true := by simpa using h1
      have e2 : decide (f.id = g.id + 1) = false := by simpa using h1
      clear h1
      go_upto_region 6 with fail
      go_quiet (fail)
      go_wp2_with fail
      go_ret
      exact Tells2.no HE.out (hcF.drewN _)
    have e1 : (f.id != g.id + 1) = false := by simpa using h1
    have e2 : decide (f.id = g.id + 1) = true := by simpa using h1
    have H1 := Lib.hid h1
    clear h1
    by_cases h2 : f.ver < g.ver
    · have HE := Lib.hid (HBAD.out (fun e => by omega))
      have e3 : decide (f.ver < g.ver) = true := by simpa using h2
      go_upto_region 6 with fail
      go_quiet (fail)
      go_wp2_with fail
      go_ret
      exact Tells2.no HE.out (hcF.drewN _)
    have e3 : decide (f.ver < g.ver) = false := by simpa using h2
    by_cases h3 : f.tm < g.tm
    · have HE := Lib.hid (HBAD.out (fun e => by omega))
      have e4 : decide (f.tm < g.tm) = true := by simpa using h3
      go_upto_region 6 with fail
      go_quiet (fail)
      go_wp2_with fail
      go_ret
      exact Tells2.no HE.out (hcF.drewN _)
    have e4 : decide (f.tm < g.tm) = false := by simpa using h3
    have HE := Lib.hid (HGOOD.out ⟨H1.out, by omega, by omega⟩)
    go_upto_region 6 with fail
    go_quiet (fail)
    go_wp2_with fail
    go_roundw
    case rel => exact ⟨k' + 1 + 1, by omega, by go_num, HE.out, hcF.drewN _⟩
    case measure => simp [intOf]; omega
end Go.Proofs.YtngfimjbgopgjaaGreatDoor
