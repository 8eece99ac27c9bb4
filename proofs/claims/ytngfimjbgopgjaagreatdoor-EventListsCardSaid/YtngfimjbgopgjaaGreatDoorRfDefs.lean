/- Contract of cutoverref8.rightDefs. -/
import Derived.Test.YtngfimjbgopgjaaGreatDoorDef
import Derived.BigQuiet
namespace Go.Proofs.YtngfimjbgopgjaaGreatDoor
open Go.RowKit
set_option linter.unusedVariables false

theorem needsB_le {c : Int} : ∀ {l : List Int} {a b : Int}, a ≤ b → needsB b c l = true → needsB a c l = true
  | [], _, _, _, _ => rfl
  | n :: l, a, b, h, hb => by
    simp only [needsB, Bool.and_eq_true, decide_eq_true_eq] at hb ⊢
    exact ⟨⟨by omega, hb.1.2⟩, hb.2⟩

set_option maxHeartbeats 4000000 in
set_option maxRecDepth 20000 in
theorem rrightDefs_any (A : Option Addr) (n c : Nat) (l : List Df) (w : World) (h : RdDf w A l) (hn : l.length = n) (hn2 : n ≤ 17592186044416) (hns : ∀ d ∈ l, d.ns.length ≤ 17592186044416) :
    Calls Tryz.prog 61 #[.slice A n c] w fun e w' => e = .returned (.bool (rightDefsB (l.map Df.v))) ∧ Chg (fun _ => False) w w' := by
  have hb : rightDefsB (l.map Df.v) = ((l.map Df.v).all (rightDefB · n) && (decide (1 ≤ (n : Int)) && decide ((n : Int) ≤ 8))) := by rw [rightDefsB, List.length_map, hn]
  obtain ⟨res, hres⟩ : ∃ res, res = rightDefsB (l.map Df.v) := ⟨_, rfl⟩
  rw [← hres]
  have HRES := Lib.hid (hres.trans hb)
  clear hres
  have HN := Lib.hid hn
  have HR := Lib.hid h
  have HNS := Lib.hid hns
  clear hb hn h hns
  go_enter Tryz.func61, Tryz.ntmps61
  go_wp2_with fail
  go_loopw [3] (fun i w' => ∃ k : Nat, k ≤ n ∧ i = .int .i64 k ∧ ((l.take k).map Df.v).all (rightDefB · n) = true ∧ Chg (fun _ => False) w w') (fun i _ => n - (intOf i).toNat)
  case atStart => exact ⟨0, by omega, rfl, rfl, Chg.refl _ _⟩
  case round =>
    obtain ⟨k, hk, rfl, ha, hc⟩ := hrel
    have HA := Lib.hid ha
    clear ha
    by_cases hkn : k < n
    · have hkl : k < l.length := by have := HN.out; omega
      have hrk := HR.out.still hc
      obtain ⟨b, o, rfl, _⟩ := hrk.rd.at_ (k := 0) (by rw [dfC_len]; omega)
      obtain ⟨p0, p1, p2⟩ := dfC_get l k hkl
      have r0 := hrk.rd.cells rfl _ _ p0
      have r1 := hrk.rd.cells rfl _ _ p1
      have r2 := hrk.rd.cells rfl _ _ p2
      rw [← Nat.add_assoc] at r1 r2
      have hdn := hrk.ns l[k] (List.getElem_mem _)
      have hdl := HNS.out l[k] (List.getElem_mem _)
      have hsn : ((l.take (k + 1)).map Df.v).all (rightDefB · n) = (((l.take k).map Df.v).all (rightDefB · n) && rightDefB l[k].v n) := by
        rw [List.take_add_one, List.getElem?_eq_getElem hkl, List.map_append, List.all_append]; simp
      have hal : rightDefB l[k].v n = false → (l.map Df.v).all (rightDefB · n) = false := fun hf => by
        rw [List.all_eq_false]
        exact ⟨l[k].v, List.mem_map_of_mem (List.getElem_mem _), by rw [hf]; simp⟩
      have HSN := Lib.hid hsn
      have HAL := Lib.hid hal
      obtain ⟨d, hd⟩ : ∃ d, d = l[k] := ⟨_, rfl⟩
      rw [← hd] at r0 r1 r2 hdn hdl HSN HAL
      clear hsn hal hd p0 p1 p2
      obtain ⟨dA, dc, ns, tr, le⟩ := d
      simp only at r0 r1 r2 hdn hdl
      have hv : ∀ t : Bool, needsB (-1) n ns = t → rightDefB (Df.v ⟨dA, dc, ns, tr, le⟩) n = (t && ((decide (1 ≤ tr) && decide (tr ≤ 5)) && (decide (1 ≤ le) && decide (le ≤ 1048576)))) := fun t ht => by rw [← ht]; rfl
      have HV := Lib.hid hv
      clear hv
      have bx := BoxAt.new wr 85 #[.slice dA ns.length dc, .int .i64 tr, .int .i64 le]
      have hca := hc.alloc (.cells #[.slice dA ns.length dc, .int .i64 tr, .int .i64 le] 85)
      have hna := hdn.alloc (.cells #[.slice dA ns.length dc, .int .i64 tr, .int .i64 le] 85)
      have q1 := bx.cell 1 rfl
      have q2 := bx.cell 2 rfl
      have j0 : (0 : Int) ≤ (k : Int) := by omega
      have j1 : (k : Int) < (n : Int) := by omega
      rcases (by omega : tr < 1 ∨ (1 ≤ tr ∧ 5 < tr) ∨ (1 ≤ tr ∧ tr ≤ 5 ∧ le < 1) ∨ (1 ≤ tr ∧ tr ≤ 5 ∧ 1 ≤ le ∧ 1048576 < le) ∨ (1 ≤ tr ∧ tr ≤ 5 ∧ 1 ≤ le ∧ le ≤ 1048576)) with g | ⟨g1, g2⟩ | ⟨g1, g2, g3⟩ | ⟨g1, g2, g3, g4⟩ | ⟨g1, g2, g3, g4⟩
      · have hf : rightDefB (Df.v ⟨dA, dc, ns, tr, le⟩) n = false := by rw [HV.out _ rfl]; simp; omega
        have HF := Lib.hid (HAL.out hf)
        clear hf
        go_wp2_with fail
        go_ret
        exact ⟨by rw [HRES.out, HF.out]; rfl, hca⟩
      · have hf : rightDefB (Df.v ⟨dA, dc, ns, tr, le⟩) n = false := by rw [HV.out _ rfl]; simp; omega
        have HF := Lib.hid (HAL.out hf)
        clear hf
        go_wp2_with fail
        go_ret
        exact ⟨by rw [HRES.out, HF.out]; rfl, hca⟩
      · have hf : rightDefB (Df.v ⟨dA, dc, ns, tr, le⟩) n = false := by rw [HV.out _ rfl]; simp; omega
        have HF := Lib.hid (HAL.out hf)
        clear hf
        go_wp2_with fail
        go_ret
        exact ⟨by rw [HRES.out, HF.out]; rfl, hca⟩
      · have hf : rightDefB (Df.v ⟨dA, dc, ns, tr, le⟩) n = false := by rw [HV.out _ rfl]; simp; omega
        have HF := Lib.hid (HAL.out hf)
        clear hf
        go_wp2_with fail
        go_ret
        exact ⟨by rw [HRES.out, HF.out]; rfl, hca⟩
      · have hgood : needsB (-1) n ns = true → rightDefB (Df.v ⟨dA, dc, ns, tr, le⟩) n = true := fun e => by rw [HV.out _ e]; simp; omega
        have hbad : needsB (-1) n ns = false → rightDefB (Df.v ⟨dA, dc, ns, tr, le⟩) n = false := fun e => by rw [HV.out _ e]; rfl
        have HG := Lib.hid hgood
        have HBAD := Lib.hid hbad
        have HRN := Lib.hid hna
        clear hgood hbad hna hdn
        go_wp2_with fail
        clear r0 r1 r2 q1 q2
        obtain ⟨gd, hgd⟩ : ∃ gd, gd = wr.heap.size := ⟨_, rfl⟩
        rw [← hgd] at bx ⊢
        obtain ⟨wa, hwa⟩ : ∃ wa, wa = wr.alloc (.cells #[.slice dA ns.length dc, .int .i64 tr, .int .i64 le] 85) := ⟨_, rfl⟩
        rw [← hwa] at bx hca HRN ⊢
        clear hwa hgd
        go_loopw [5] (fun i w' => ∃ (j : Nat) (z : Int), j ≤ ns.length ∧ i = .int .i64 j ∧ -1 ≤ z ∧ (j = 0 → z = -1) ∧ (∀ j', j = j' + 1 → ns[j']? = some z) ∧ needsB (-1) n ns = needsB z n (ns.drop j) ∧ Chg (fun _ => False) wa w') (fun i _ => ns.length - (intOf i).toNat)
        case atStart => exact ⟨0, -1, by omega, rfl, by omega, fun _ => rfl, fun j' e => by omega, rfl, Chg.refl _ _⟩
        case round =>
          obtain ⟨j, z, hj, rfl, hz, hz0, hz1, hzn, hcj⟩ := hrel
          have HZ1 := Lib.hid hz1
          have HZN := Lib.hid hzn
          clear hz1 hzn
          have q0 := (bx.keep hcj (fun h => h)).cell 0 rfl
          by_cases hjn : j < ns.length
          · have hRj := HRN.out.keep hcj (fun _ _ h => h)
            obtain ⟨b5, o5, rfl, hq⟩ := hRj.at_ (k := j) (by rw [List.length_map]; exact hjn)
            rw [List.getElem_map] at hq
            have hdr : ns.drop j = ns[j] :: ns.drop (j + 1) := List.drop_eq_getElem_cons hjn
            have hjx : ns[j]? = some ns[j] := List.getElem?_eq_getElem hjn
            obtain ⟨x, hx⟩ : ∃ x, x = ns[j] := ⟨_, rfl⟩
            rw [← hx] at hq hdr hjx
            have hst : needsB (-1) n ns = ((decide (z < x) && decide (x < n)) && needsB x n (ns.drop (j + 1))) := by rw [HZN.out, hdr]; rfl
            have HST := Lib.hid hst
            have HJX := Lib.hid hjx
            clear hx hdr hst hjx
            have i0 : (0 : Int) ≤ (j : Int) := by omega
            have i1 : (j : Int) < (ns.length : Int) := by omega
            have hprev : ∀ j' : Nat, j = j' + 1 → wr.cell? ⟨b5, o5 + j', none⟩ = some (.int .i64 z) := fun j' e => by
              obtain ⟨b6, o6, e6, hq6⟩ := hRj.at_ (k := j') (by rw [List.length_map]; omega)
              cases e6
              rw [hq6, List.getElem_map]
              have := HZ1.out j' e
              rw [List.getElem?_eq_getElem (by omega)] at this
              rw [Option.some.inj this]
            have hbadf : (x ≤ z ∨ (n : Int) ≤ x) → (l.map Df.v).all (rightDefB · n) = false := fun hh => HAL.out (HBAD.out (by rw [HST.out]; simp; omega))
            have HBF := Lib.hid hbadf
            clear hbadf
            by_cases hx0 : x < 0
            · have HF := Lib.hid (HBF.out (.inl (by omega)))
              have f1 : decide (x < 0) = true := by simpa using hx0
              clear hprev
              go_wp2_with fail
              go_quiet (fail)
              go_wp2_with fail
              go_ret
              exact ⟨by rw [HRES.out, HF.out]; rfl, (hca.trans hcj (fun x hx => hx.elim)).drewN _⟩
            · have f1 : decide (x < 0) = false := by simpa using hx0
              by_cases hxn : (n : Int) ≤ x
              · have HF := Lib.hid (HBF.out (.inr hxn))
                have f2 : decide ((n : Int) ≤ x) = true := by simpa using hxn
                clear hprev
                go_wp2_with fail
                go_quiet (fail)
                go_wp2_with fail
                go_ret
                exact ⟨by rw [HRES.out, HF.out]; rfl, (hca.trans hcj (fun x hx => hx.elim)).drewN _⟩
              · have f2 : decide ((n : Int) ≤ x) = false := by simpa using hxn
                have hxn2 : x < (n : Int) := by omega
                by_cases hj0 : j = 0
                · subst hj0
                  rw [Nat.add_zero] at hq
                  have hz9 : z = -1 := hz0 rfl
                  have HSTEP := Lib.hid (show needsB (-1) n ns = needsB x n (ns.drop (0 + 1)) by rw [HST.out]; (try simp [hxn2]); (try omega))
                  have f3 : decide ((0 : Int) < ((0 : Nat) : Int)) = false := by simp
                  clear hprev hz9 hz0
                  go_wp2_with fail
                  go_quiet (fail)
                  go_wp2_with fail
                  go_roundw
                  case rel => exact ⟨1, x, by omega, rfl, by omega, fun e => by omega, fun j' e => by rw [show j' = 0 by omega]; exact HJX.out, HSTEP.out, hcj.drewN _⟩
                  case measure => simp [intOf]; omega
                · obtain ⟨j', rfl⟩ : ∃ j', j = j' + 1 := ⟨j - 1, by omega⟩
                  have hpv := hprev j' rfl
                  have f3 : decide ((0 : Int) < ((j' + 1 : Nat) : Int)) = true := by simp
                  have f4 : IntKind.i64.wrap (((j' + 1 : Nat) : Int) - 1) = (j' : Int) := by rw [show ((j' + 1 : Nat) : Int) - 1 = (j' : Int) by omega]; exact IntWalk.i64_in _ (by omega)
                  have f4' : IntKind.i64.wrap ((j' : Int) + 1 - 1) = (j' : Int) := by rw [show ((j' : Int) + 1 - 1) = (j' : Int) by omega]; exact IntWalk.i64_in _ (by omega)
                  have f5 : (0 : Int) ≤ (j' : Int) := by omega
                  have f6 : (j' : Int) < (ns.length : Int) := by omega
                  clear hprev
                  by_cases hxz : x ≤ z
                  · have HF := Lib.hid (HBF.out (.inl hxz))
                    have f7 : decide (x ≤ z) = true := by simpa using hxz
                    go_wp2_with fail
                    go_quiet (fail)
                    go_wp2_with fail
                    go_ret
                    exact ⟨by rw [HRES.out, HF.out]; rfl, (hca.trans hcj (fun x hx => hx.elim)).drewN _⟩
                  · have f7 : decide (x ≤ z) = false := by simpa using hxz
                    have HSTEP := Lib.hid (show needsB (-1) n ns = needsB x n (ns.drop (j' + 1 + 1)) by rw [HST.out]; (try simp [hxn2]); (try omega))
                    go_wp2_with fail
                    go_quiet (fail)
                    go_wp2_with fail
                    go_roundw
                    case rel => exact ⟨j' + 1 + 1, x, by omega, by go_num, by omega, fun e => by omega, fun j3 e => by rw [show j3 = j' + 1 by omega]; exact HJX.out, HSTEP.out, hcj.drewN _⟩
                    case measure => simp [intOf]; omega
          · have hje : j = ns.length := by omega
            have hyes : needsB (-1) n ns = true := by rw [HZN.out, List.drop_eq_nil_of_le (by omega)]; rfl
            have HY := Lib.hid (HG.out hyes)
            have i1 : ¬ (j : Int) < (ns.length : Int) := by omega
            clear hyes hje
            go_wp2_with fail
            go_roundw
            case rel => exact ⟨k + 1, by omega, by go_num, by rw [HSN.out, HA.out, HY.out]; rfl, hca.trans hcj (fun x hx => hx.elim)⟩
            case measure => simp [intOf]; omega
    · have hall : (l.map Df.v).all (rightDefB · n) = true := by
        have := HA.out
        rwa [List.take_of_length_le (by have := HN.out; omega)] at this
      have HALL := Lib.hid hall
      clear hall
      have j1 : ¬ (k : Int) < (n : Int) := by omega
      by_cases g1 : 1 ≤ (n : Int)
      · by_cases g2 : (n : Int) ≤ 8
        · go_wp2_with fail
          go_ret
          exact ⟨by rw [HRES.out, HALL.out]; simp <;> omega, hc⟩
        · go_wp2_with fail
          go_ret
          exact ⟨by rw [HRES.out, HALL.out]; simp <;> omega, hc⟩
      · go_wp2_with fail
        go_ret
        exact ⟨by rw [HRES.out, HALL.out]; simp <;> omega, hc⟩
end Go.Proofs.YtngfimjbgopgjaaGreatDoor
