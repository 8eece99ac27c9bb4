/- Contracts of cutoverref8's SameInts, SameDefs, Same (gen_rfsame.py). -/
import Derived.Test.YtngfimjbgopgjaaGreatDoorEvConAll
import Derived.Deep.RegionHeld3
import Derived.BigQuiet
import Derived.Deep.CutBlock
import Derived.Deep.DeepCutAuto
namespace Go.Proofs.YtngfimjbgopgjaaGreatDoor
open Go.RowKit
set_option linter.unusedVariables false

set_option maxHeartbeats 1000000 in
theorem rsameI_any (A B : Option Addr) (n m c d : Nat) (l l' : List Int) (w : World) (ha : Rd w A (l.map (Value.int .i64))) (hb : Rd w B (l'.map (Value.int .i64))) (hn : l.length = n) (hm : l'.length = m) (hn2 : n ≤ 1048576) (hm2 : m ≤ 1048576) :
    Calls Tryz.prog 91 #[.slice A n c, .slice B m d] w fun e w' => e = .returned (.bool (decide (l = l'))) ∧ Chg (fun _ => False) w w' := by
  subst hn hm
  have HA := Lib.hid ha
  have HB := Lib.hid hb
  clear ha hb
  by_cases hlen : l.length = l'.length
  · have hd : decide (l.length = l'.length) = true := by simpa using hlen
    have hnq : ((l.length : Int) != (l'.length : Int)) = false := by simp; omega
    have HLEN := Lib.hid hlen
    clear hlen
    go_enter Tryz.func91, Tryz.ntmps91
    go_wp2_with fail
    go_loopw [5] (fun i wr => ∃ k : Nat, k ≤ l.length ∧ i = .int .i64 k ∧ l.take k = l'.take k ∧ Chg (fun _ => False) w wr) (fun i _ => l.length - (intOf i).toNat)
    case atStart => exact ⟨0, by omega, rfl, by simp, Chg.refl _ _⟩
    case round =>
      obtain ⟨k, hk, rfl, ht, hc⟩ := hrel
      by_cases hkn : k < l.length
      · have hkm : k < l'.length := by have := HLEN.out; omega
        obtain ⟨b, o, rfl, hq⟩ := (HA.out.keep hc (fun _ _ h => h)).at_ (k := k) (by simpa using hkn)
        obtain ⟨b', o', rfl, hq'⟩ := (HB.out.keep hc (fun _ _ h => h)).at_ (k := k) (by simpa using hkm)
        rw [List.getElem_map] at hq hq'
        obtain ⟨x, hx⟩ : ∃ x, x = l[k] := ⟨_, rfl⟩
        obtain ⟨y, hy⟩ : ∃ y, y = l'[k] := ⟨_, rfl⟩
        rw [← hx] at hq
        rw [← hy] at hq'
        have HX := Lib.hid hx
        have HY := Lib.hid hy
        have HT := Lib.hid ht
        clear hx hy ht
        have j0 : (0 : Int) ≤ (k : Int) := by omega
        have j1 : (k : Int) < (l.length : Int) := by omega
        have j2 : (k : Int) < (l'.length : Int) := by omega
        by_cases hxy : x = y
        · subst hxy
          have hb : (x != x) = false := by simp
          go_wp2_with fail
          go_quiet (fail)
          go_wp2_with fail
          go_roundw
          case rel => exact ⟨k + 1, by omega, by go_num, by rw [List.take_add_one, List.take_add_one, HT.out, List.getElem?_eq_getElem hkn, List.getElem?_eq_getElem hkm, ← HX.out, ← HY.out], hc.drewN _⟩
          case measure => simp [intOf]; omega
        · have hne : l ≠ l' := by
            intro e
            subst e
            exact hxy (HX.out.trans HY.out.symm)
          have HE := Lib.hid hne
          have hb : (x != y) = true := by simpa using hxy
          have hb2 : decide (x = y) = false := by simpa using hxy
          clear hne
          go_wp2_with fail
          go_quiet (fail)
          go_wp2_with fail
          go_ret
          exact ⟨by rw [decide_eq_false HE.out]; rfl, hc.drewN _⟩
      · have hkn' : k = l.length := by omega
        have hll : l = l' := by
          rw [hkn', List.take_of_length_le (Nat.le_refl _), List.take_of_length_le (by have := HLEN.out; omega)] at ht
          exact ht
        have HE := Lib.hid hll
        clear hll ht
        have j1 : ¬ (k : Int) < (l.length : Int) := by omega
        go_wp2_with fail
        go_ret
        exact ⟨by rw [decide_eq_true HE.out]; rfl, hc⟩
  · have hd : decide (l.length = l'.length) = false := by simpa using hlen
    have hnq : ((l.length : Int) != (l'.length : Int)) = true := by simp; omega
    go_enter Tryz.func91, Tryz.ntmps91
    go_wp2_with fail
    go_ret
    exact ⟨by rw [decide_eq_false (fun e => hlen (by rw [e]))]; rfl, Chg.refl _ _⟩

set_option maxHeartbeats 4000000 in
set_option maxRecDepth 20000 in
theorem rsameDefs_any (A B : Option Addr) (n m c d : Nat) (l l' : List Df) (w : World) (ha : RdDf w A l) (hb : RdDf w B l') (hn : l.length = n) (hm : l'.length = m) (hn2 : n ≤ 1048576) (hm2 : m ≤ 1048576) (h1 : ∀ d ∈ l, d.ns.length ≤ 1048576) (h2 : ∀ d ∈ l', d.ns.length ≤ 1048576) :
    Calls Tryz.prog 76 #[.slice A n c, .slice B m d] w fun e w' => e = .returned (.bool (decide (l.map Df.v = l'.map Df.v))) ∧ Chg (fun _ => False) w w' := by
  subst hn hm
  have HA := Lib.hid ha
  have HB := Lib.hid hb
  have H1 := Lib.hid h1
  have H2 := Lib.hid h2
  clear ha hb h1 h2
  by_cases hlen : l.length = l'.length
  · have hd : decide (l.length = l'.length) = true := by simpa using hlen
    have hnq : ((l.length : Int) != (l'.length : Int)) = false := by simp; omega
    have HLEN := Lib.hid hlen
    clear hlen
    go_enter Tryz.func76, Tryz.ntmps76
    go_wp2_with fail
    go_loopw [5] (fun i wr => ∃ k : Nat, k ≤ l.length ∧ i = .int .i64 k ∧ (l.map Df.v).take k = (l'.map Df.v).take k ∧ Chg (fun _ => False) w wr) (fun i _ => l.length - (intOf i).toNat)
    case atStart => exact ⟨0, by omega, rfl, by simp, Chg.refl _ _⟩
    case round =>
      obtain ⟨k, hk, rfl, ht, hc⟩ := hrel
      have HT := Lib.hid ht
      clear ht
      by_cases hkn : k < l.length
      · have hkm : k < l'.length := by have := HLEN.out; omega
        have hAr := HA.out.still hc
        have hBr := HB.out.still hc
        obtain ⟨b, o, rfl, _⟩ := hAr.rd.at_ (k := 0) (by rw [dfC_len]; omega)
        obtain ⟨b', o', rfl, _⟩ := hBr.rd.at_ (k := 0) (by rw [dfC_len]; omega)
        obtain ⟨p0, p1, p2⟩ := dfC_get l k hkn
        obtain ⟨p0', p1', p2'⟩ := dfC_get l' k hkm
        have r0 := hAr.rd.cells rfl _ _ p0
        have r1 := hAr.rd.cells rfl _ _ p1
        have r2 := hAr.rd.cells rfl _ _ p2
        have s0 := hBr.rd.cells rfl _ _ p0'
        have s1 := hBr.rd.cells rfl _ _ p1'
        have s2 := hBr.rd.cells rfl _ _ p2'
        rw [← Nat.add_assoc] at r1 r2 s1 s2
        have hx := hAr.ns l[k] (List.getElem_mem _)
        have hy := hBr.ns l'[k] (List.getElem_mem _)
        have hxl := H1.out l[k] (List.getElem_mem _)
        have hyl := H2.out l'[k] (List.getElem_mem _)
        have hst : l[k].v = l'[k].v → (l.map Df.v).take (k + 1) = (l'.map Df.v).take (k + 1) := fun e => by
          rw [List.take_add_one, List.take_add_one, HT.out, List.getElem?_map, List.getElem?_map, List.getElem?_eq_getElem hkn, List.getElem?_eq_getElem hkm]
          simp [e]
        have hno : l[k].v ≠ l'[k].v → l.map Df.v ≠ l'.map Df.v := fun hne e => hne (by
          have e2 : (l.map Df.v)[k]? = (l'.map Df.v)[k]? := by rw [e]
          rw [List.getElem?_map, List.getElem?_map, List.getElem?_eq_getElem hkn, List.getElem?_eq_getElem hkm] at e2
          exact Option.some.inj e2)
        have HST := Lib.hid hst
        have HNO := Lib.hid hno
        obtain ⟨x, hxe⟩ : ∃ x, x = l[k] := ⟨_, rfl⟩
        obtain ⟨y, hye⟩ : ∃ y, y = l'[k] := ⟨_, rfl⟩
        rw [← hxe] at r0 r1 r2 hx hxl HST HNO
        rw [← hye] at s0 s1 s2 hy hyl HST HNO
        clear hst hno hxe hye p0 p1 p2 p0' p1' p2'
        obtain ⟨xA, xc, xn, xt, xl⟩ := x
        obtain ⟨yA, yc, yn, yt, yl⟩ := y
        simp only at r0 r1 r2 s0 s1 s2 hx hy hxl hyl
        have j0 : (0 : Int) ≤ (k : Int) := by omega
        have j1 : (k : Int) < (l.length : Int) := by omega
        have j2 : (k : Int) < (l'.length : Int) := by omega
        by_cases ht : xt = yt
        · subst ht
          by_cases hl : xl = yl
          · subst hl
            have k0 : Chg (fun _ => False) wr wr.drew := (Chg.refl _ _).drew
            have hSk : ∀ w', Chg (fun _ => False) wr w' → (w'.cell? ⟨b, o + k * 3, none⟩ = some (.slice xA xn.length xc) ∧ w'.cell? ⟨b, o + k * 3 + 1, none⟩ = some (.int .i64 xt) ∧ w'.cell? ⟨b, o + k * 3 + 2, none⟩ = some (.int .i64 xl) ∧ w'.cell? ⟨b', o' + k * 3, none⟩ = some (.slice yA yn.length yc) ∧ w'.cell? ⟨b', o' + k * 3 + 1, none⟩ = some (.int .i64 xt) ∧ w'.cell? ⟨b', o' + k * 3 + 2, none⟩ = some (.int .i64 xl)) := fun w' hw => ⟨hw.cell_some r0 (fun h => h), hw.cell_some r1 (fun h => h), hw.cell_some r2 (fun h => h), hw.cell_some s0 (fun h => h), hw.cell_some s1 (fun h => h), hw.cell_some s2 (fun h => h)⟩
            have hcall := rsameI_any xA yA xn.length yn.length xc yc xn yn wr.drew (hx.keep k0 (fun _ _ h => h)) (hy.keep k0 (fun _ _ h => h)) rfl rfl hxl hyl
            clear hx hy r0 r1 r2 s0 s1 s2
            go_upto_region 6 with fail
            go_cut [54] from 17 to 53 (fun v w' => v = .bool (!decide (xn = yn)) ∧ Chg (fun _ => False) wr w')
            case first =>
              go_region_held3 (fun w' => w'.cell? ⟨b, o + k * 3, none⟩ = some (.slice xA xn.length xc) ∧ w'.cell? ⟨b, o + k * 3 + 1, none⟩ = some (.int .i64 xt) ∧ w'.cell? ⟨b, o + k * 3 + 2, none⟩ = some (.int .i64 xl) ∧ w'.cell? ⟨b', o' + k * 3, none⟩ = some (.slice yA yn.length yc) ∧ w'.cell? ⟨b', o' + k * 3 + 1, none⟩ = some (.int .i64 xt) ∧ w'.cell? ⟨b', o' + k * 3 + 2, none⟩ = some (.int .i64 xl)) (first | exact hSk _ k5 | exact hSk _ k0) ((go_at_call 91; (with_reducible refine hcall.mono ?_); rintro e w5 ⟨rfl, hc5⟩; have k5 := k0.trans hc5 (fun x hx => hx.elim)))
              all_goals
                go_wp2_with fail
                go_meet
                exact ⟨rfl, by first | exact k5 | exact k0⟩
            case rest =>
              obtain ⟨rfl, hc5⟩ := hcut
              have hc6 := hc.trans hc5 (fun x hx => hx.elim)
              by_cases hxy : xn = yn
              · subst hxy
                have f0 : (!decide (xn = xn)) = false := by simp
                rw [f0]
                go_wp2_with fail
                go_roundw
                case rel => exact ⟨k + 1, by omega, by go_num, HST.out rfl, hc6⟩
                case measure => simp [intOf]; omega
              · have f0 : (!decide (xn = yn)) = true := by simp [hxy]
                rw [f0]
                go_wp2_with fail
                go_ret
                have hne : ¬ ((xn, xt, xl) : List Int × Int × Int) = (yn, xt, xl) := fun e => hxy (congrArg (fun x => x.1) e)
                exact ⟨by rw [decide_eq_false (HNO.out hne)]; rfl, hc6⟩
          · have f1 : (xl != yl) = true := by simpa using hl
            have f2 : decide (xl = yl) = false := by simpa using hl
            have f3 : (xt != xt) = false := by simp
            have f4 : (xl == yl) = false := by simpa using hl
            go_wp2_with fail
            go_quiet (fail)
            go_wp2_with fail
            go_ret
            have hne : ¬ ((xn, xt, xl) : List Int × Int × Int) = (yn, xt, yl) := fun e => hl (congrArg (fun x => x.2.2) e)
            exact ⟨by rw [decide_eq_false (HNO.out hne)]; rfl, hc.drewN _⟩
        · have f1 : (xt != yt) = true := by simpa using ht
          have f2 : decide (xt = yt) = false := by simpa using ht
          have f4 : (xt == yt) = false := by simpa using ht
          go_wp2_with fail
          go_quiet (fail)
          go_wp2_with fail
          go_ret
          have hne : ¬ ((xn, xt, xl) : List Int × Int × Int) = (yn, yt, yl) := fun e => ht (congrArg (fun x => x.2.1) e)
          exact ⟨by rw [decide_eq_false (HNO.out hne)]; rfl, hc.drewN _⟩
      · have hkn' : k = l.length := by omega
        have hll : l.map Df.v = l'.map Df.v := by
          have h3 := HT.out
          rw [hkn', List.take_of_length_le (by simp), List.take_of_length_le (by rw [List.length_map, HLEN.out]; exact Nat.le_refl _)] at h3
          exact h3
        have HE := Lib.hid hll
        clear hll
        have j1 : ¬ (k : Int) < (l.length : Int) := by omega
        go_wp2_with fail
        go_ret
        exact ⟨by rw [decide_eq_true HE.out]; rfl, hc⟩
  · have hd : decide (l.length = l'.length) = false := by simpa using hlen
    have hnq : ((l.length : Int) != (l'.length : Int)) = true := by simp; omega
    go_enter Tryz.func76, Tryz.ntmps76
    go_wp2_with fail
    go_ret
    exact ⟨by rw [decide_eq_false (fun e => hlen (by simpa using congrArg List.length e))]; rfl, Chg.refl _ _⟩

end Go.Proofs.YtngfimjbgopgjaaGreatDoor
