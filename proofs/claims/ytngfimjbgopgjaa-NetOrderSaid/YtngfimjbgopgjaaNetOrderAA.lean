/- NetOrder: one of the four parts of the walk of cutoverlaw22.NetOrder (by the lengths of its arguments): it answers true, and turns nothing that was there. -/
import Derived.Test.YtngfimjbgopgjaaNetOrd
namespace Go.Proofs.Ytngfimjbgopgjaa.netOrder
open Go.RowKit
set_option linter.unusedVariables false

set_option maxHeartbeats 4000000 in
set_option maxRecDepth 20000 in
theorem walkAA (w : World) (a0 : Option Addr) (cap0 : Nat) (zs : List Int) (hlc : zs.length ≤ cap0) (hcm : cap0 ≤ maxLen) (hlm : zs.length ≤ 140737488351232) (hrd : Rd w a0 (zs.map (Value.int .u8))) (hwf : ∀ z ∈ zs, (Lit.int .u8 z).wf = true) (a1 : Option Addr) (cap1 : Nat) (ys : List Int) (hlc1 : ys.length ≤ cap1) (hcm1 : cap1 ≤ maxLen) (hlm1 : ys.length ≤ 17592186044416) (hrd1 : Rd w a1 (ys.map (Value.int .i64))) (hwf1 : ∀ z ∈ ys, (Lit.int .i64 z).wf = true) (hZ : zs.length ≤ 60) (hY : ys.length ≤ 40) :
    Calls Try.prog 13 #[.slice a0 zs.length cap0, .slice a1 ys.length cap1] w (SaysTrue w) := by
  have HZ := Lib.hid hrd
  have HY := Lib.hid hrd1
  have hzb : zs.length ≤ 9223372036854775807 := by omega
  have hyb : ys.length ≤ 9223372036854775807 := by omega
  clear hrd hrd1 hwf1
  go_enter Try.func13, Try.ntmps13
  go_wp2_with (first
    | (go_at_call 67; go_must (refine (newNet_any w).mono ?_; rintro e w1 ⟨rfl, h1, hc1⟩))
    | (go_at_call 68; go_must (refine (known22_any _).mono ?_; rintro e w2 ⟨rfl, hc2⟩; have hN := h1.keep hc2 (fun x hx => hx.elim); have hcw := hc1.trans hc2 (fun x hx => hx.elim))))
  clear h1 hc1 hc2
  obtain ⟨g, hg⟩ : ∃ g, g = w.heap.size := ⟨_, rfl⟩
  have HG := Lib.hid hg
  rw [← hg] at hN
  rw [← hg]
  clear hg
  go_loopw [6] (fun i wr => ∃ k : Nat, k ≤ zs.length ∧ k ≤ 60 ∧ i = .int .i64 k ∧ ∃ (A : Option Addr) (c : Nat) (ps : List Pk), NetAt wr g g A c ps 0 ∧ Ord zs k ps ∧ ps.length = k ∧ Chg (fun _ => False) w wr) (fun i _ => 60 - (intOf i).toNat)
  case atStart => exact ⟨0, by omega, by omega, rfl, none, 0, [], hN, ⟨[], rfl, List.Pairwise.nil, by simp⟩, rfl, hcw⟩
  case round =>
    clear hN hcw
    obtain ⟨k, hk, hk6, rfl, A, c, ps, hN, hO, hpl, hc⟩ := hrel
    have HO := Lib.hid hO
    clear hO
    by_cases hkn : k < zs.length
    · have h60 : k < 60 := by omega
      obtain ⟨b, o, rfl, hq⟩ := (HZ.out.keep hc (fun _ _ h => h)).at_ (k := k) (by simpa using hkn)
      rw [List.getElem_map] at hq
      obtain ⟨z, hz⟩ : ∃ z, z = zs[k] := ⟨_, rfl⟩
      have hzd : Hid (zs.getD k 0 = z) := Lib.hid (by rw [hz, List.getD_eq_getElem?_getD, List.getElem?_eq_getElem hkn]; rfl)
      rw [← hz] at hq
      clear hz
      have hw8 : IntKind.u8.wrap (k : Int) = (k : Int) := by rw [IntKind.wrap_u8]; omega
      have hN2 := hN.keep (S := fun _ => False) ((Chg.refl _ _).alloc (.cells #[.int .u8 k, .int .u8 z] 5)) (fun x hx => hx.elim)
      have hbase : g ≤ (wr.alloc (.cells #[.int .u8 k, .int .u8 z] 5)).heap.size := by have := hN.lt; simp; omega
      go_wp2_with (go_at_call 69; go_must (refine (put_yes _ g g c A ps 0 hN2 1 2 (some ⟨wr.heap.size, 0, none⟩) 2 2 [(k : Int), z] (Rd.newRow wr _ _ _ rfl) rfl (by omega) (by omega) hbase).mono ?_; rintro e w3 ⟨rfl, p, hp, hnt⟩; obtain ⟨A3, c3, h3, hc3⟩ := hnt.own hN2 (hc.alloc _) (by rw [HG.out]; exact Nat.le_refl _)))
      go_roundw
      case rel => exact ⟨k + 1, by omega, by omega, by go_num, A3, c3, ps ++ [p], h3, HO.out.step (by rw [hzd.out]; exact hp), by simp [hpl], hc3⟩
      case measure => simp [intOf]; omega
    · have hn60 : ps.length ≤ 60 := by omega
      obtain ⟨wo, rfl⟩ : ∃ wo : World, wo = wr := ⟨_, rfl⟩
      go_wp2_with (go_at_call 70; go_must (refine (netLen_any _ g g c A ps 0 hN).mono ?_; rintro e w' ⟨rfl, rfl⟩))
      go_loopw [7, 8] (fun m i w' => ∃ j : Nat, j ≤ ys.length ∧ j ≤ 40 ∧ i = .int .i64 j ∧ ∃ (A : Option Addr) (c : Nat) (ps : List Pk), m = .int .i64 ps.length ∧ NetAt w' g g A c ps 0 ∧ Ord zs k ps ∧ ps.length ≤ 60 ∧ Chg (fun _ => False) w w') (fun _ i _ => 40 - (intOf i).toNat)
      case atStart => exact ⟨0, by omega, by omega, rfl, A, c, ps, by rw [hpl], hN, HO.out, hn60, hc⟩
      case round =>
        clear hN hc HO hn60
        obtain ⟨j, hj, hj40, rfl, A2, c2, qs, rfl, hN, hO, hq60, hc⟩ := hrel
        have HO := Lib.hid hO
        have htwo := hO.two
        clear hO
        by_cases hjn : j < ys.length
        · have hj4 : j < 40 := by omega
          obtain ⟨b, o, rfl, _⟩ := HY.out.at_ (k := 0) (by simp; omega)
          have hcell : ∀ w', Chg (fun _ => False) w w' → w'.cell? ⟨b, o + j, none⟩ = some (.int .i64 ys[j]) := fun w' hw => (HY.out.keep hw (fun _ _ h => h)).cells rfl j _ (by rw [List.getElem?_map, List.getElem?_eq_getElem hjn]; rfl)
          obtain ⟨z, hz⟩ : ∃ z, z = ys[j] := ⟨_, rfl⟩
          rw [← hz] at hcell
          clear hz
          have j0 : (0 : Int) ≤ (j : Int) := by omega
          have j1 : (j : Int) < (ys.length : Int) := by omega
          have hc0 := hcell wr.drew hc.drew
          have hN0 := hN.keep (S := fun _ => False) ((Chg.refl _ wr).drew) (fun x hx => hx.elim)
          have hNb := hN.keep (S := fun _ => False) (((Chg.refl _ wr).alloc (.cells #[.int .i64 0, .int .i64 0, .slice none 0 0] 69)).drew) (fun x hx => hx.elim)
          have hcb : Chg (fun _ => False) w (wr.alloc (.cells #[.int .i64 0, .int .i64 0, .slice none 0 0] 69)).drew := (hc.alloc _).drew
          have bxb : BoxPk (wr.alloc (.cells #[.int .i64 0, .int .i64 0, .slice none 0 0] 69)).drew wr.heap.size 0 0 (.slice none 0 0) := (BoxPk.new wr 0 0 (.slice none 0 0)).keep (S := fun _ => False) ((Chg.refl _ _).drew) (fun h => h)
          have hbx0 : w.heap.size ≤ wr.heap.size := hc.size
          have hcl : ∀ x, nCore g A2 x → x < wr.heap.size := fun x hx => (hN.core_lt x hx).2
          have hbl : ∀ x, nByt qs x → x < wr.heap.size := fun x hx => (hN.byt_lt x hx).2
          have hg0 : w.heap.size ≤ g := by rw [HG.out]; exact Nat.le_refl _
          by_cases hemp : qs = []
          · subst hemp
            have hP : ∀ w', Calls Try.prog 22 #[.int .i64 z, .int .i64 1] w' fun e w'' => e = .returned (.int .i64 0) ∧ w' = w'' := fun w' => by
              have := pick_any z 1 w' (by omega) (by omega)
              rwa [show z % 1 = 0 by omega] at this
            go_wp2_with fail
            go_region_held3 (fun w' => w'.cell? ⟨b, o + j, none⟩ = some (.int .i64 z)) (first | exact hcell _ (((hc5.setCell (p := ⟨wr.heap.size, 0, none⟩) (.inr hbx0) _).setCell (p := ⟨wr.heap.size, 1, none⟩) (.inr hbx0) _).setCell (p := ⟨wr.heap.size, 2, none⟩) (.inr hbx0) _) | exact hcell _ (hc5.alloc _) | exact hcell _ hc5 | exact hc0 | exact hcell _ hcb) (first
              | (go_at_call 70; (first | refine (netLen_any _ g g c2 A2 [] 0 hN0).mono ?_ | refine (netLen_any _ g g c2 A2 [] 0 hNb).mono ?_); rintro e w' ⟨rfl, rfl⟩)
              | (go_at_call 22; go_must (refine (hP _).mono ?_; rintro e w' ⟨rfl, rfl⟩))
              | (go_at_call 71; refine (take_no _ g g c2 A2 [] 0 hN0 0 (by simp)).mono ?_; rintro e w5 ⟨rfl, hd5⟩; have hc5 := hc.drew.trans hd5 (fun x hx => hx.elim); have hN5 := hN0.keep hd5 (fun x hx => hx.elim); have z0 : True := trivial)
              | (go_at_call 71; go_must (refine (take_no _ g g c2 A2 [] 0 hNb 0 (by simp)).mono ?_; rintro e w5 ⟨rfl, hd5⟩; have hc5 := hcb.trans hd5 (fun x hx => hx.elim); have hN5 := hNb.keep hd5 (fun x hx => hx.elim); have bx5 := bxb.keep hd5 (fun h => h); have y0 := bx5.c0; have y1 := bx5.c1; have y2 := bx5.c2; have f0 := bx5.fz 0; have f1 := bx5.fz 1; have f2 := bx5.fz 2)))
            all_goals
              go_wp2_with fail
              go_roundw
              case rel => first
                | exact ⟨j + 1, by omega, by omega, by go_num, A2, c2, [], rfl, hN5.keep (S := fun _ => False) ((Chg.refl _ _).alloc _) (fun x hx => hx.elim), HO.out, hq60, hc5.alloc _⟩
                | exact ⟨j + 1, by omega, by omega, by go_num, A2, c2, [], rfl, hN5.keep (S := fun x => x = wr.heap.size) ((((Chg.refl (fun x => x = wr.heap.size) w5).setCell (p := ⟨wr.heap.size, 0, none⟩) (.inl rfl) _).setCell (p := ⟨wr.heap.size, 1, none⟩) (.inl rfl) _).setCell (p := ⟨wr.heap.size, 2, none⟩) (.inl rfl) _) (fun x hx => ⟨fun hco => by have := hcl x hco; omega, fun ⟨q, hq, _⟩ => by cases hq⟩), HO.out, hq60, ((hc5.setCell (p := ⟨wr.heap.size, 0, none⟩) (.inr hbx0) _).setCell (p := ⟨wr.heap.size, 1, none⟩) (.inr hbx0) _).setCell (p := ⟨wr.heap.size, 2, none⟩) (.inr hbx0) _⟩
              case measure => simp [intOf]; omega
          · have hpos : 1 ≤ qs.length := by
              rcases qs with _ | ⟨x, l⟩
              · exact absurd rfl hemp
              · simp
            have x1 := Int.emod_nonneg z (by omega : (qs.length : Int) ≠ 0)
            have x2 := Int.emod_lt_of_pos z (by omega : (0 : Int) < (qs.length : Int))
            obtain ⟨x, hx⟩ : ∃ x : Nat, z % (qs.length : Int) = x := ⟨(z % (qs.length : Int)).toNat, by omega⟩
            have hxq : x < qs.length := by omega
            have hP : ∀ w', Calls Try.prog 22 #[.int .i64 z, .int .i64 (max 1 (qs.length : Int))] w' fun e w'' => e = .returned (.int .i64 x) ∧ w' = w'' := fun w' => by
              have := pick_any z (qs.length : Int) w' (by omega) (by omega)
              rw [show max 1 (qs.length : Int) = qs.length by omega]
              rwa [hx] at this
            have hbx : qs[x].bs.length ≤ 140737488355328 := by rw [htwo _ (List.getElem_mem _)]; omega
            have HB := Lib.hid (butAt_len hxq)
            clear hx x1 x2
            have hwm : IntKind.i64.wrap ((qs.length : Int) - 1) = (qs.length : Int) - 1 := IntWalk.i64_in _ (by omega)
            go_wp2_with fail
            go_region_held3 (fun w' => w'.cell? ⟨b, o + j, none⟩ = some (.int .i64 z)) (first | exact hcell _ (((hc6.setCell (p := ⟨wr.heap.size, 0, none⟩) (.inr hbx0) _).setCell (p := ⟨wr.heap.size, 1, none⟩) (.inr hbx0) _).setCell (p := ⟨wr.heap.size, 2, none⟩) (.inr hbx0) _) | exact hcell _ (hc6.alloc _) | exact hcell _ hc6 | exact hc0 | exact hcell _ hcb) (first
              | (go_at_call 70; (first | refine (netLen_any _ g g c2 A2 qs 0 hN0).mono ?_ | refine (netLen_any _ g g c2 A2 qs 0 hNb).mono ?_); rintro e w' ⟨rfl, rfl⟩)
              | (go_at_call 22; go_must (with_reducible refine (hP _).mono ?_; rintro e w' ⟨rfl, rfl⟩))
              | (go_at_call 71; refine (take_yes _ g g c2 A2 qs 0 hN0 x hxq (by omega) hbx).mono ?_; rintro e w5 ⟨A5, c5, rfl, hf5, hnt⟩; obtain ⟨A6, c6, h6, hc6⟩ := hnt.own hN0 hc.drew hg0)
              | (go_at_call 71; go_must (refine (take_yes _ g g c2 A2 qs 0 hNb x hxq (by omega) hbx).mono ?_; rintro e w5 ⟨A5, c5, rfl, hf5, hnt⟩; obtain ⟨A6, c6, h6, hd6, hco6, hby6⟩ := hnt; have hc6 : Chg (fun _ => False) w w5 := hcb.trans hd6 (fun y hy => .inr (Nat.le_trans hg0 (hNb.core_lt y hy).1)); have bx5 := bxb.keep hd6 (fun hi => by have := hcl _ hi; omega); have y0 := bx5.c0; have y1 := bx5.c1; have y2 := bx5.c2; have f0 := bx5.fz 0; have f1 := bx5.fz 1; have f2 := bx5.fz 2; have hsb : (wr.alloc (.cells #[.int .i64 0, .int .i64 0, .slice none 0 0] 69)).drew.heap.size = wr.heap.size + 1 := (by show (wr.heap.push _).size = _; simp))))
            all_goals
              go_wp2_with fail
              go_roundw
              case rel => first
                | exact ⟨j + 1, by omega, by omega, by go_num, A6, c6, butAt qs x, by rw [HB.out]; congr 1; omega, h6.keep (S := fun _ => False) ((Chg.refl _ _).alloc _) (fun x hx => hx.elim), HO.out.but x, by rw [HB.out]; omega, hc6.alloc _⟩
                | exact ⟨j + 1, by omega, by omega, by go_num, A6, c6, butAt qs x, by rw [HB.out]; congr 1; omega, h6.keep (S := fun x => x = wr.heap.size) ((((Chg.refl (fun x => x = wr.heap.size) w5).setCell (p := ⟨wr.heap.size, 0, none⟩) (.inl rfl) _).setCell (p := ⟨wr.heap.size, 1, none⟩) (.inl rfl) _).setCell (p := ⟨wr.heap.size, 2, none⟩) (.inl rfl) _) (fun y hy => ⟨fun hco => by rcases hco6 y hco with h | h; have := hcl y h; omega; omega, fun hco => by rcases hby6 y hco with h | h; have := hbl y h; omega; omega⟩), HO.out.but x, by rw [HB.out]; omega, ((hc6.setCell (p := ⟨wr.heap.size, 0, none⟩) (.inr hbx0) _).setCell (p := ⟨wr.heap.size, 1, none⟩) (.inr hbx0) _).setCell (p := ⟨wr.heap.size, 2, none⟩) (.inr hbx0) _⟩
              case measure => simp [intOf]; omega
        · obtain ⟨f, hf1, hf2⟩ := HO.out.at_
          have HF1 := Lib.hid hf1
          have HF2 := Lib.hid hf2
          clear hf1 hf2 htwo HO
          obtain ⟨wp, rfl⟩ : ∃ wp : World, wp = wr := ⟨_, rfl⟩
          go_wp2_with fail
          go_loopw [11, 12] (fun last i w' => ∃ j : Nat, j ≤ qs.length ∧ i = .int .i64 j ∧ ∃ L : Int, last = .int .i64 L ∧ -1 ≤ L ∧ L < 60 ∧ (∀ h : j < qs.length, L < f j) ∧ Chg (fun _ => False) wp w') (fun _ i _ => qs.length - (intOf i).toNat)
          case atStart => exact ⟨0, by omega, rfl, -1, rfl, by omega, by omega, fun h => by omega, Chg.refl _ _⟩
          case round =>
            obtain ⟨j, hj, rfl, L, rfl, hL0, hL1, hLf, hcj⟩ := hrel
            have hNj := hN.keep hcj (fun x hx => hx.elim)
            by_cases hjq : j < qs.length
            · obtain ⟨e1, e2⟩ := HF1.out j hjq
              have hl := hLf hjq
              have hnx : Hid (∀ h : j + 1 < qs.length, f j < f (j + 1)) := Lib.hid (fun h => HF2.out j (j + 1) (by omega) h)
              have hpk := peek_yes wr g g c2 A2 qs 0 hNj j hjq (by omega) (by rw [e1]; simp)
              rw [e1] at hpk
              clear hLf e1
              obtain ⟨y, hy⟩ : ∃ y : Nat, y = f j := ⟨_, rfl⟩
              rw [← hy] at hl e2 hpk hnx
              clear hy
              obtain ⟨pf, hpf⟩ : ∃ pf, pf = qs[j].f := ⟨_, rfl⟩
              obtain ⟨pt, hpt⟩ : ∃ pt, pt = qs[j].t := ⟨_, rfl⟩
              rw [← hpf, ← hpt] at hpk
              clear hpf hpt
              have hyz : y < zs.length := by omega
              obtain ⟨bz, oz, rfl, _⟩ := HZ.out.at_ (k := 0) (by simp; omega)
              have hzc : ∀ w', Chg (fun _ => False) w w' → w'.cell? ⟨bz, oz + y, none⟩ = some (.int .u8 (zs.getD y 0)) := fun w' hw => (HZ.out.keep hw (fun _ _ h => h)).cells rfl y _ (by rw [List.getElem?_map, List.getD_eq_getElem?_getD, List.getElem?_eq_getElem hyz]; rfl)
              obtain ⟨zy, hzy⟩ : ∃ zy, zy = zs.getD y 0 := ⟨_, rfl⟩
              rw [← hzy] at hpk hzc
              clear hzy
              have hcw := hc.trans hcj (fun x hx => hx.elim)
              go_wp2_with (first
                | (go_at_call 70; go_must (refine (netLen_any _ g g c2 A2 qs 0 hNj).mono ?_; rintro e w' ⟨rfl, rfl⟩))
                | (go_at_call 72; go_must (refine hpk.mono ?_; rintro e w5 ⟨A5, c5, rfl, hf5, hd5⟩; simp only [List.length_cons, List.length_nil, Nat.zero_add, Nat.reduceAdd])))
              obtain ⟨b5, o5, rfl, _⟩ := hf5.1.at_ (k := 0) (by simp)
              have v0 : w5.cell? ⟨b5, o5, none⟩ = some (.int .u8 y) := hf5.1.cells rfl 0 _ rfl
              have v1 : w5.cell? ⟨b5, o5 + 1, none⟩ = some (.int .u8 zy) := hf5.1.cells rfl 1 _ rfl
              obtain ⟨w6, hw6⟩ : ∃ w6, w6 = w5.alloc (.cells #[.int .i64 pf, .int .i64 pt, .slice (some ⟨b5, o5, none⟩) 2 c5] 69) := ⟨_, rfl⟩
              obtain ⟨bx, hbx⟩ : ∃ bx, bx = w5.heap.size := ⟨_, rfl⟩
              have hd6 : Chg (fun _ => False) w5 w6 := by rw [hw6]; exact (Chg.refl _ _).alloc _
              have bp : BoxPk w6 bx pf pt (.slice (some ⟨b5, o5, none⟩) 2 c5) := by rw [hw6, hbx]; exact BoxPk.new w5 _ _ _
              have u2 := bp.c2
              have u3 := hd6.cell_some v0 (fun h => h)
              have u4' := hd6.cell_some v1 (fun h => h)
              have hc6 : Chg (fun _ => False) wr w6 := hd5.trans hd6 (fun x hx => hx.elim)
              have u5' := hzc w6 (hcw.trans hc6 (fun x hx => hx.elim))
              rw [← hw6, ← hbx]
              clear hw6 hbx v0 v1 hf5 hd5 hd6 hpk bp hzc
              have hwy : IntKind.i64.wrap (y : Int) = (y : Int) := IntWalk.i64_in _ (by omega)
              have d1 : decide ((y : Int) ≤ L) = false := by simp; omega
              have d2 : decide ((zs.length : Int) ≤ (y : Int)) = false := by simp; omega
              have d3 : (zy != zy) = false := by simp
              have y0 : (0 : Int) ≤ (y : Int) := by omega
              have y1 : (y : Int) < (zs.length : Int) := by omega
              go_quiet (fail)
              go_wp2_with fail
              go_roundw
              case rel => exact ⟨j + 1, by omega, by go_num, (y : Int), rfl, by omega, by omega, fun h => by have := hnx.out h; omega, (hcj.trans hc6 (fun x hx => hx.elim)).drewN _⟩
              case measure => simp [intOf]; omega
            · have hjq' : (qs.length : Int) ≤ (j : Int) := by omega
              go_wp2_with (first
                | (go_at_call 70; go_must (refine (netLen_any _ g g c2 A2 qs 0 hNj).mono ?_; rintro e w' ⟨rfl, rfl⟩))
                | (go_at_call 73; go_must (refine (netLost_any _ g g c2 A2 qs 0 hNj).mono ?_; rintro e w' ⟨rfl, rfl⟩)))
              go_ret
              exact ⟨by simp, hc.trans hcj (fun x hx => hx.elim)⟩
end Go.Proofs.Ytngfimjbgopgjaa.netOrder
