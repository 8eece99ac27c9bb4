/- Contract of cutoverref11.Check: it gives some number. -/
import Derived.Test.YtngfimjbgopgjaaGreatDoorStOrdAll
import Derived.BigQuiet
namespace Go.Proofs.YtngfimjbgopgjaaGreatDoor
open Go.RowKit
set_option linter.unusedVariables false

set_option maxHeartbeats 4000000 in
set_option maxRecDepth 20000 in
theorem check_any (A : Option Addr) (c : Nat) (l : List Df) (w : World) (h : RdDf w A l) (hns : ∀ d ∈ l, d.ns.length ≤ 255) :
    Calls Tryz.prog 93 #[.slice A l.length c] w fun e w' => SomeI e ∧ Chg (fun _ => False) w w' := by
  have hord := fun (h8 : l.length ≤ 8) (hn : ∀ d ∈ l, NsOk d) (w' : World) (hc : Chg (fun _ => False) w w') => order_any A c l w' (h.still hc) h8 hn
  obtain ⟨n, hn⟩ : ∃ n, n = l.length := ⟨_, rfl⟩
  rw [← hn] at hord ⊢
  have HO := Lib.hid hord
  have HN := Lib.hid hn
  have HR := Lib.hid h
  have HNS := Lib.hid hns
  clear hn h hns hord
  go_enter Tryz.func93, Tryz.ntmps93
  by_cases hn1 : n < 1
  · have f1 : decide ((n : Int) < 1) = true := by simp; omega
    go_wp2_with fail
    go_ret
    exact ⟨⟨_, rfl⟩, Chg.refl _ _⟩
  by_cases hn8 : 8 < n
  · have f1 : decide ((n : Int) < 1) = false := by simp; omega
    have f2 : decide ((8 : Int) < n) = true := by simp; omega
    go_wp2_with fail
    go_ret
    exact ⟨⟨_, rfl⟩, Chg.refl _ _⟩
  have f1 : decide ((n : Int) < 1) = false := by simp; omega
  have f2 : decide ((8 : Int) < n) = false := by simp; omega
  go_wp2_with fail
  clear f1 f2
  go_loopw [3] (fun i w' => ∃ k : Nat, k ≤ n ∧ i = .int .i64 k ∧ (∀ d ∈ l.take k, NsOk d) ∧ Chg (fun _ => False) w w') (fun i _ => n - (intOf i).toNat)
  case atStart => exact ⟨0, by omega, rfl, (fun d hd => by simp at hd), Chg.refl _ _⟩
  case round =>
    obtain ⟨k, hk, rfl, ha, hc⟩ := hrel
    have HA := Lib.hid ha
    clear ha
    by_cases hkn : k < n
    · have hkl : k < l.length := by have := HN.out; omega
      have hrk := HR.out.still hc
      obtain ⟨b, o, rfl, _⟩ := hrk.rd.at_ (k := 0) (by rw [dfC_len]; omega)
      obtain ⟨p0, p1, p2⟩ := dfC_get l k hkl
      have r0 := hrk.rd.cells rfl _ _ p0
      have r1 := hrk.rd.cells rfl _ _ p1
      have r2 := hrk.rd.cells rfl _ _ p2
      rw [← Nat.add_assoc] at r1 r2
      have hdn := hrk.ns l[k] (List.getElem_mem _)
      have hdl := HNS.out l[k] (List.getElem_mem _)
      have hsn : NsOk l[k] → ∀ d ∈ l.take (k + 1), NsOk d := fun hok d hd => by
        rw [List.take_add_one, List.getElem?_eq_getElem hkl] at hd
        rcases List.mem_append.1 hd with hd | hd
        · exact HA.out d hd
        · simp only [Option.toList, List.mem_singleton] at hd; rw [hd]; exact hok
      have HSN := Lib.hid hsn
      obtain ⟨d, hd⟩ : ∃ d, d = l[k] := ⟨_, rfl⟩
      rw [← hd] at r0 r1 r2 hdn hdl HSN
      clear hsn hd p0 p1 p2
      obtain ⟨dA, dc, ns, tr, le⟩ := d
      simp only at r0 r1 r2 hdn hdl
      have bx := BoxAt.new wr 85 #[.slice dA ns.length dc, .int .i64 tr, .int .i64 le]
      have hca := hc.alloc (.cells #[.slice dA ns.length dc, .int .i64 tr, .int .i64 le] 85)
      have hna := hdn.alloc (.cells #[.slice dA ns.length dc, .int .i64 tr, .int .i64 le] 85)
      have q1 := bx.cell 1 rfl
      have q2 := bx.cell 2 rfl
      have j0 : (0 : Int) ≤ (k : Int) := by omega
      have j1 : (k : Int) < (n : Int) := by omega
      rcases (by omega : tr < 1 ∨ (1 ≤ tr ∧ 5 < tr) ∨ (1 ≤ tr ∧ tr ≤ 5 ∧ le < 1) ∨ (1 ≤ tr ∧ tr ≤ 5 ∧ 1 ≤ le ∧ 1048576 < le) ∨ (1 ≤ tr ∧ tr ≤ 5 ∧ 1 ≤ le ∧ le ≤ 1048576)) with g | ⟨g1, g2⟩ | ⟨g1, g2, g3⟩ | ⟨g1, g2, g3, g4⟩ | ⟨g1, g2, g3, g4⟩
      · go_wp2_with fail
        go_ret
        exact ⟨⟨_, rfl⟩, hca⟩
      · go_wp2_with fail
        go_ret
        exact ⟨⟨_, rfl⟩, hca⟩
      · go_wp2_with fail
        go_ret
        exact ⟨⟨_, rfl⟩, hca⟩
      · go_wp2_with fail
        go_ret
        exact ⟨⟨_, rfl⟩, hca⟩
      · have HRN := Lib.hid hna
        clear hna hdn
        go_wp2_with fail
        clear r0 r1 r2 q1 q2
        obtain ⟨gd, hgd⟩ : ∃ gd, gd = wr.heap.size := ⟨_, rfl⟩
        rw [← hgd] at bx ⊢
        obtain ⟨wa, hwa⟩ : ∃ wa, wa = wr.alloc (.cells #[.slice dA ns.length dc, .int .i64 tr, .int .i64 le] 85) := ⟨_, rfl⟩
        rw [← hwa] at bx hca HRN ⊢
        clear hwa hgd
        go_loopw [5] (fun i w' => ∃ (j : Nat), j ≤ ns.length ∧ i = .int .i64 j ∧ (∀ x ∈ ns.take j, 0 ≤ x) ∧ Chg (fun _ => False) wa w') (fun i _ => ns.length - (intOf i).toNat)
        case atStart => exact ⟨0, by omega, rfl, (fun x hx => by simp at hx), Chg.refl _ _⟩
        case round =>
          obtain ⟨j, hj, rfl, hzn, hcj⟩ := hrel
          have HZN := Lib.hid hzn
          clear hzn
          have q0 := (bx.keep hcj (fun h => h)).cell 0 rfl
          by_cases hjn : j < ns.length
          · have hRj := HRN.out.keep hcj (fun _ _ h => h)
            obtain ⟨b5, o5, rfl, hq⟩ := hRj.at_ (k := j) (by rw [List.length_map]; exact hjn)
            rw [List.getElem_map] at hq
            have hst : 0 ≤ ns[j] → ∀ x ∈ ns.take (j + 1), 0 ≤ x := fun h0 x hx => by
              rw [List.take_add_one, List.getElem?_eq_getElem hjn] at hx
              rcases List.mem_append.1 hx with hx | hx
              · exact HZN.out x hx
              · simp only [Option.toList, List.mem_singleton] at hx; rw [hx]; exact h0
            obtain ⟨x, hx⟩ : ∃ x, x = ns[j] := ⟨_, rfl⟩
            rw [← hx] at hq hst
            have HST := Lib.hid hst
            clear hx hst
            have i0 : (0 : Int) ≤ (j : Int) := by omega
            have i1 : (j : Int) < (ns.length : Int) := by omega
            by_cases hx0 : x < 0
            · have f1 : decide (x < 0) = true := by simpa using hx0
              go_wp2_with fail
              go_quiet (fail)
              go_wp2_with fail
              go_ret
              exact ⟨⟨_, rfl⟩, (hca.trans hcj (fun x hx => hx.elim)).drewN _⟩
            · have f1 : decide (x < 0) = false := by simpa using hx0
              have HS2 := Lib.hid (HST.out (by omega))
              by_cases hxn : (n : Int) ≤ x
              · have f2 : decide ((n : Int) ≤ x) = true := by simpa using hxn
                go_wp2_with fail
                go_quiet (fail)
                go_wp2_with fail
                go_ret
                exact ⟨⟨_, rfl⟩, (hca.trans hcj (fun x hx => hx.elim)).drewN _⟩
              · have f2 : decide ((n : Int) ≤ x) = false := by simpa using hxn
                by_cases hj0 : j = 0
                · subst hj0
                  rw [Nat.add_zero] at hq
                  have f3 : decide ((0 : Int) < ((0 : Nat) : Int)) = false := by simp
                  go_wp2_with fail
                  go_quiet (fail)
                  go_wp2_with fail
                  go_roundw
                  case rel => exact ⟨1, by omega, rfl, HS2.out, hcj.drewN _⟩
                  case measure => simp [intOf]; omega
                · obtain ⟨j', rfl⟩ : ∃ j', j = j' + 1 := ⟨j - 1, by omega⟩
                  have hpv : ∃ z, wr.cell? ⟨b5, o5 + j', none⟩ = some (.int .i64 z) := by
                    obtain ⟨b6, o6, e6, hq6⟩ := hRj.at_ (k := j') (by rw [List.length_map]; omega)
                    cases e6
                    rw [List.getElem_map] at hq6
                    exact ⟨_, hq6⟩
                  obtain ⟨z, hpv⟩ := hpv
                  have f3 : decide ((0 : Int) < ((j' + 1 : Nat) : Int)) = true := by simp
                  have f4 : IntKind.i64.wrap (((j' + 1 : Nat) : Int) - 1) = (j' : Int) := by rw [show ((j' + 1 : Nat) : Int) - 1 = (j' : Int) by omega]; exact IntWalk.i64_in _ (by omega)
                  have f4' : IntKind.i64.wrap ((j' : Int) + 1 - 1) = (j' : Int) := by rw [show ((j' : Int) + 1 - 1) = (j' : Int) by omega]; exact IntWalk.i64_in _ (by omega)
                  have f5 : (0 : Int) ≤ (j' : Int) := by omega
                  have f6 : (j' : Int) < (ns.length : Int) := by omega
                  by_cases hxz : x ≤ z
                  · have f7 : decide (x ≤ z) = true := by simpa using hxz
                    go_wp2_with fail
                    go_quiet (fail)
                    go_wp2_with fail
                    go_ret
                    exact ⟨⟨_, rfl⟩, (hca.trans hcj (fun x hx => hx.elim)).drewN _⟩
                  · have f7 : decide (x ≤ z) = false := by simpa using hxz
                    go_wp2_with fail
                    go_quiet (fail)
                    go_wp2_with fail
                    go_roundw
                    case rel => exact ⟨j' + 1 + 1, by omega, by go_num, HS2.out, hcj.drewN _⟩
                    case measure => simp [intOf]; omega
          · have hje : j = ns.length := by omega
            have hok : NsOk ⟨dA, dc, ns, tr, le⟩ := ⟨hdl, fun x hx => HZN.out x (by rw [hje, List.take_length]; exact hx)⟩
            have HSK := Lib.hid (HSN.out hok)
            have i1 : ¬ (j : Int) < (ns.length : Int) := by omega
            clear hok hje
            go_wp2_with fail
            go_roundw
            case rel => exact ⟨k + 1, by omega, by go_num, HSK.out, hca.trans hcj (fun x hx => hx.elim)⟩
            case measure => simp [intOf]; omega
    · have hke : k = n := by omega
      have hall : ∀ d ∈ l, NsOk d := fun d hd => HA.out d (by rw [hke, HN.out, List.take_length]; exact hd)
      have ho := HO.out (by omega) hall wr hc
      clear hall hke
      have j1 : ¬ (k : Int) < (n : Int) := by omega
      go_wp2_with (go_at_call 101; go_must (refine ho.mono ?_; rintro e w2 ⟨D, dn, dc, ol, rfl, h1, h2, h3, h4, hc2⟩; have H1 := Lib.hid h1; have H3 := Lib.hid h3; clear h1 h3))
      all_goals
        go_ret
        exact ⟨⟨_, rfl⟩, hc.trans hc2 (fun x hx => hx.elim)⟩
end Go.Proofs.YtngfimjbgopgjaaGreatDoor
