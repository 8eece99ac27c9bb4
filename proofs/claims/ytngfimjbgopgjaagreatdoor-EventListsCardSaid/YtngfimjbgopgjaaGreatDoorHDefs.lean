/- Contract of cutoverhand.Defs: it gives some Defs. -/
import Derived.Test.YtngfimjbgopgjaaGreatDoorEvPure
import Derived.Test.YtngfimjbgopgjaaGreatDoorMemArgs
import Derived.Test.YtngfimjbgopgjaaGreatDoorHSetAll
import Derived.Deep.RegionHeld3
import Derived.Deep.CutBlock
import Derived.Deep.DeepCutAuto
namespace Go.Proofs.YtngfimjbgopgjaaGreatDoor
open Go.RowKit
set_option linter.unusedVariables false

/-- Some number from 0 to m - 1. -/
theorem pick_nat (n m : Int) (w : World) (hm : 1 ≤ m) (hm2 : m ≤ 4611686018427387904) : Calls Tryz.prog 5 #[.int .i64 n, .int .i64 m] w fun e w' => ∃ r : Nat, (r : Int) < m ∧ e = .returned (.int .i64 (r : Int)) ∧ w = w' := by
  refine (pick_any n m w hm hm2).mono fun e w' ⟨h, h2⟩ => ?_
  have h3 := Int.emod_nonneg n (by omega : m ≠ 0)
  have h4 := Int.emod_lt_of_pos n (by omega : 0 < m)
  exact ⟨(n % m).toNat, by omega, by rw [h]; congr 2; omega, h2⟩

set_option maxHeartbeats 4000000 in
set_option maxRecDepth 20000 in
theorem hDefs_any (A : Option Addr) (n c : Nat) (how : Int) (w : World) (h : RawDs w A n c) :
    Calls Tryz.prog 18 #[.slice A n c, .int .i64 how] w (DefsGave w) := by
  obtain ⟨hnc, hcm, f, hf⟩ := h
  have hnm : n ≤ 9223372036854775807 := by simp only [maxLen] at hcm; omega
  have HF := Lib.hid hf
  clear hf
  obtain ⟨i0, hi, hz0, hz1, hz2⟩ := info_parts defInfo
  obtain ⟨i1, ki, kz0, kz1, kz2⟩ := info_parts intInfo
  obtain ⟨base, hbase⟩ : ∃ base, base = w.heap.size := ⟨_, rfl⟩
  have HB := Lib.hid hbase
  clear hbase
  go_enter Tryz.func18, Tryz.ntmps18
  go_upto_block 0 with fail
  go_cut [5] from 6 to 94 (fun out w' => ∃ (dl : List Df) (D : Option Addr) (dn dc : Nat), out = .slice D dn dc ∧ dn ≤ 6 ∧ dl.length = dn ∧ w'.ownsRow base 85 3 (.slice D dn dc) dn (dfC dl) ∧ (∀ d ∈ dl, d.ns.length ≤ 255 ∧ Rd w' d.A (d.ns.map (Value.int .i64)) ∧ ∀ x, In d.A x → base ≤ x ∧ ¬ In D x) ∧ Chg (fun _ => False) w w')
  case first =>
    go_wp2_with fail
    go_loopw [5, 6] (fun out i w' => ∃ (k : Nat) (dl : List Df) (D : Option Addr) (dc : Nat), k ≤ n ∧ k ≤ 6 ∧ i = .int .i64 k ∧ out = .slice D k dc ∧ dl.length = k ∧ w'.ownsRow base 85 3 (.slice D k dc) k (dfC dl) ∧ (∀ d ∈ dl, d.ns.length ≤ 100 ∧ w'.ownsRow base 3 1 (.slice d.A d.ns.length d.c) d.ns.length (d.ns.map (Value.int .i64)) ∧ ∀ x, In d.A x → ¬ In D x) ∧ Chg (fun _ => False) w w') (fun _ i _ => 6 - (intOf i).toNat)
    case atStart => exact ⟨0, [], none, 0, by omega, by omega, rfl, rfl, rfl, World.ownsRow_nil _ _ _ _, (fun d hd => by cases hd), Chg.refl _ _⟩
    case round =>
      obtain ⟨k, dl, D, dc, hkn, hk6, rfl, rfl, hl, ho, hds, hc⟩ := hrel
      have HL := Lib.hid hl
      have HDS := Lib.hid hds
      clear hl hds
      by_cases hgo : k < n ∧ k < 6
      · obtain ⟨g1, g2⟩ := hgo
        have hv := (HF.out k g1).still hc
        obtain ⟨v, hve⟩ : ∃ v, v = f k := ⟨_, rfl⟩
        rw [← hve] at hv
        clear hve
        obtain ⟨b, o, rfl, v0, v1, v2⟩ := hv.ex
        have j0 : (0 : Int) ≤ (k : Int) := by omega
        have j1 : (k : Int) < (n : Int) := by omega
        obtain ⟨y, hy⟩ : ∃ y, y = v.tr % 3 := ⟨_, rfl⟩
        have hy3 : 0 ≤ y ∧ y < 3 := by omega
        obtain ⟨z, hz⟩ : ∃ z, z = v.le % 9 := ⟨_, rfl⟩
        have hz9 : 0 ≤ z ∧ z < 9 := by omega
        have hP : ∀ w', Calls Tryz.prog 5 #[.int .i64 v.tr, .int .i64 3] w' fun e w'' => e = .returned (.int .i64 y) ∧ w' = w'' := fun w' => by rw [hy]; exact pick_any _ _ w' (by omega) (by omega)
        have hQ : ∀ w', Calls Tryz.prog 5 #[.int .i64 v.le, .int .i64 9] w' fun e w'' => e = .returned (.int .i64 z) ∧ w' = w'' := fun w' => by rw [hz]; exact pick_any _ _ w' (by omega) (by omega)
        clear hy hz
        have e1 : IntKind.i64.wrap (1 + y) = 1 + y := IntWalk.i64_in _ (by omega)
        have e2 : IntKind.i64.wrap (1 + z) = 1 + z := IntWalk.i64_in _ (by omega)
        have k0 : Chg (fun _ => False) wr wr.drew := (Chg.refl _ _).drew
        go_upto_region 5 with fail
        go_cut [7] from 11 to 94 (fun q w' => q = .pointer (some ⟨wr.heap.size, 0, none⟩) ∧ w' = (wr.alloc (.cells #[.slice none 0 0, .int .i64 (1 + y), .int .i64 (1 + z)] 85)).drew)
        case first =>
          go_region_held3 (fun w' => w'.cell? ⟨b, o + k * 3, none⟩ = some (.int .i64 v.tr) ∧ w'.cell? ⟨b, o + k * 3 + 1, none⟩ = some (.int .i64 v.le)) (first | exact ⟨(k0.alloc _).cell_some v0 (fun h => h), (k0.alloc _).cell_some v1 (fun h => h)⟩ | exact ⟨k0.cell_some v0 (fun h => h), k0.cell_some v1 (fun h => h)⟩) (first
            | (go_at_call 5; (with_reducible refine (hP _).mono ?_); rintro e w' ⟨rfl, rfl⟩)
            | (go_at_call 5; (with_reducible refine (hQ _).mono ?_); rintro e w' ⟨rfl, rfl⟩))
          all_goals
            go_wp2_with fail
            go_meet
            exact ⟨rfl, rfl⟩
        case rest =>
          obtain ⟨rfl, hwd⟩ := hcut
          obtain ⟨gd, hgd⟩ : ∃ gd, gd = wr.heap.size := ⟨_, rfl⟩
          have bd := BoxAt.new wr 85 #[.slice none 0 0, .int .i64 (1 + y), .int .i64 (1 + z)]
          have hcd : Chg (fun _ => False) wr wc := by rw [hwd]; exact ((Chg.refl _ _).alloc _).drew
          have bd0 : BoxAt wc gd 85 #[.slice none 0 0, .int .i64 (1 + y), .int .i64 (1 + z)] := by rw [hwd, hgd]; exact bd
          have hgc : gd < wc.heap.size := bd0.lt
          have hb : b < gd := by rw [hgd]; exact World.block_lt_of_cell? wr _ v0
          have hvc := hv.still hcd
          have hnA : v.ns ≠ [] → ∀ x, blk v.A = some x → x < gd := fun hne x hx => by rw [hgd]; exact hv.rd.old (by simpa using hne) x hx
          have u2 := hcd.cell_some v2 (fun h => h)
          have hDg : ∀ x, In D x → x < gd := fun x hx => by rw [hgd]; exact (own_lt ho hx).2
          have hdg : ∀ d1 ∈ dl, ∀ x, In d1.A x → x < gd := fun d1 hd1 x hx => by rw [hgd]; exact (own_lt (HDS.out d1 hd1).2.1 hx).2
          have hgw : w.heap.size ≤ gd := by rw [hgd]; exact hc.size
          have hoc := hcd.own ho (fun _ _ h => h)
          rw [← hgd]
          clear hwd hgd bd v0 v1 v2 hP hQ k0
          obtain ⟨base2, hbase2⟩ : ∃ base2, base2 = wc.heap.size := ⟨_, rfl⟩
          have HB2 := Lib.hid hbase2
          rw [← hbase2] at hgc
          clear hbase2
          go_wp2_with fail
          go_loopw [8] (fun i w' => ∃ (kk nn : Nat) (B : Option Addr) (bc : Nat) (ns : List Int), kk ≤ k ∧ i = .int .i64 kk ∧ nn ≤ 3 * kk ∧ ns.length = nn ∧ BoxAt w' gd 85 #[.slice B nn bc, .int .i64 (1 + y), .int .i64 (1 + z)] ∧ w'.ownsRow base2 3 1 (.slice B nn bc) nn (ns.map (Value.int .i64)) ∧ Chg (· = gd) wc w') (fun i _ => 6 - (intOf i).toNat)
          case atStart => exact ⟨0, 0, none, 0, [], by omega, rfl, by omega, rfl, bd0, World.ownsRow_nil _ _ _ _, Chg.refl _ _⟩
          case round =>
            obtain ⟨kk, nn, B, bc, ns, hkk, rfl, hnn, hnsl, bx, hob, hcx⟩ := hrel
            have q0 := bx.cell 0 rfl
            have q1 := bx.cell 1 rfl
            have q2 := bx.cell 2 rfl
            by_cases hkk2 : kk < k
            · have j2 : (kk : Int) < (k : Int) := by omega
              clear q0 q1 q2
              go_wp2_with fail
              have HNL := Lib.hid hnsl
              clear hnsl
              go_loopw [9] (fun i w' => ∃ (jj nn : Nat) (B : Option Addr) (bc : Nat) (ns : List Int), jj ≤ 3 ∧ jj ≤ v.n ∧ i = .int .i64 jj ∧ nn ≤ 3 * kk + jj ∧ ns.length = nn ∧ BoxAt w' gd 85 #[.slice B nn bc, .int .i64 (1 + y), .int .i64 (1 + z)] ∧ w'.ownsRow base2 3 1 (.slice B nn bc) nn (ns.map (Value.int .i64)) ∧ Chg (· = gd) wc w') (fun i _ => 3 - (intOf i).toNat)
              case atStart => exact ⟨0, nn, B, bc, ns, by omega, by omega, rfl, by omega, HNL.out, bx, hob, hcx⟩
              case round =>
                clear bx hob hcx HNL hnn
                obtain ⟨jj, nn, B, bc, ns, hj3, hjn, rfl, hnn, hnsl, bx, hob, hcx⟩ := hrel
                have HNL := Lib.hid hnsl
                clear hnsl
                have q0 := bx.cell 0 rfl
                have q1 := bx.cell 1 rfl
                have q2 := bx.cell 2 rfl
                have x2 := hcx.cell_some u2 (fun (e : b = gd) => by omega)
                by_cases hgo2 : jj < v.n ∧ jj < 3
                · obtain ⟨g3, g4⟩ := hgo2
                  have hvr := hvc.rd.keep' hcx (fun hne x hx (e : x = gd) => by have := hnA (fun e2 => hne (by rw [e2]; rfl)) x hx; omega)
                  obtain ⟨b3, o3, hvA, hq3⟩ := hvr.at_ (k := jj) (by rw [List.length_map, hvc.len]; exact g3)
                  rw [List.getElem_map] at hq3
                  obtain ⟨x, hx⟩ : ∃ x, x = v.ns[jj]'(by rw [hvc.len]; exact g3) := ⟨_, rfl⟩
                  rw [← hx] at hq3
                  clear hx
                  rw [hvA] at x2
                  obtain ⟨xp, hxp⟩ : ∃ xp, xp = x % (k : Int) := ⟨_, rfl⟩
                  have hpk := fun w' => pick_any x (k : Int) w' (by omega) (by omega)
                  rw [← hxp] at hpk
                  have j3 : (0 : Int) ≤ (jj : Int) := by omega
                  have j4 : (jj : Int) < (v.n : Int) := by omega
                  have j5 : (jj : Int) < 3 := by omega
                  clear hxp
                  have hm1 : nn + 1 ≤ maxLen := by simp only [maxLen]; omega
                  have hm2 : (nn + 1) * 8 ≤ 140737488355328 := by omega
                  have hba : base2 ≤ (wr.alloc (.cells #[.int .i64 (kk : Int)] 3)).heap.size := by have h1 := hcx.size; have h2 := HB2.out; simp; omega
                  have hgB : ¬ In B gd := fun h => by have := (own_lt hob h).1; omega
                  rcases Classical.em (xp = (kk : Int)) with he | he
                  · subst he
                    by_cases hn0 : nn = 0
                    · have HN0 := Lib.hid hn0
                      have f0 : ((nn : Int) == 0) = true := by simp; omega
                      have f1 : decide ((nn : Int) = 0) = true := by simp; omega
                      clear hn0
                      go_wp2_with (first
                        | (at_builtin; refine wpList_append_rd _ rfl (.tmp 86) (.tmp 88) 81 rfl base2 3 i1 _ 1 8 Tryz.underlying81 ki kz0 kz1 kz2 rfl (by decide) B nn bc (ns.map (Value.int .i64)) rfl (World.ownsRow.alloc hob _) (some ⟨wr.heap.size, 0, none⟩) 1 1 ([(kk : Int)].map (Value.int .i64)) rfl rfl (Rd.newRow wr _ _ _ rfl) (ints_one _) hm1 hm2 hba ?_; intro A7 c7 w7 hown7 hg7 hb7; have hc7 : Chg (In B) wr w7 := ((Chg.refl _ wr).alloc _).trans hg7 (fun x hx => .inl hx); have y0 := hc7.cell_some (p := ⟨gd, 0, none⟩) q0 hgB; have y1 : w7.frozen? ⟨gd, 0, none⟩ = false := (by rw [hc7.frozen (p := ⟨gd, 0, none⟩) bx.lt hgB]; exact bx.fz 0))
                        | (go_at_call 5; go_must (refine (hpk _).mono ?_; rintro e w' ⟨rfl, rfl⟩)))
                      have hcS : Chg (· = gd) w7 (w7.setCell ⟨gd, 0, none⟩ (.slice A7 (nn + 1) c7)) := (Chg.refl (· = gd) w7).setCell (p := ⟨gd, 0, none⟩) (.inl rfl) _
                      have bx8 := (bx.keep hc7 hgB).set 0 (.slice A7 (nn + 1) c7)
                      go_roundw
                      case rel => exact ⟨jj + 1, nn + 1, A7, c7, ns ++ [(kk : Int)], by omega, by omega, by go_num, by omega, by rw [List.length_append, HNL.out]; rfl, by simpa using bx8, by
                          rw [List.map_append]
                          exact hcS.ownS hown7 (fun x hx (e : x = gd) => by have := (own_lt hown7 hx).1; omega), ((hcx.trans hc7 (fun x hx => .inr (by have := (own_lt hob hx).1; have := HB2.out; omega))).trans hcS (fun x hx => .inl hx))⟩
                      case measure => simp [intOf]; omega
                    · obtain ⟨gB, rfl⟩ : ∃ gB, B = some ⟨gB, 0, none⟩ := by
                        rcases hob.2 with ⟨_, h0⟩ | ⟨g9, cap9, cur9, hv9, _⟩
                        · exact absurd h0 hn0
                        · injection hv9 with h9; exact ⟨g9, h9⟩
                      have f0 : ((nn : Int) == 0) = false := by simp; omega
                      have f1 : decide ((nn : Int) = 0) = false := by simp; omega
                      obtain ⟨m, hm⟩ : ∃ m : Nat, nn = m + 1 := ⟨nn - 1, by omega⟩
                      have f2 : IntKind.i64.wrap ((nn : Int) - 1) = (m : Int) := by rw [show (nn : Int) - 1 = (m : Int) by omega]; exact IntWalk.i64_in _ (by omega)
                      have f3 : (0 : Int) ≤ (m : Int) := by omega
                      have f4 : (m : Int) < (nn : Int) := by omega
                      have hml : m < ns.length := by have := HNL.out; omega
                      have f5 : wr.cell? ⟨gB, m, none⟩ = some (.int .i64 ns[m]) := by rw [hob.cellAt m (by omega), List.getElem?_map, List.getElem?_eq_getElem hml]; rfl
                      obtain ⟨zl, hzl⟩ : ∃ zl, zl = ns[m] := ⟨_, rfl⟩
                      rw [← hzl] at f5
                      have HM := Lib.hid hm
                      clear hzl hm hn0
                      by_cases hlt : zl < (kk : Int)
                      · have f6 : decide (zl < (kk : Int)) = true := by simpa using hlt
                        go_wp2_with (first
                          | (at_builtin; refine wpList_append_rd _ rfl (.tmp 86) (.tmp 88) 81 rfl base2 3 i1 _ 1 8 Tryz.underlying81 ki kz0 kz1 kz2 rfl (by decide) (some ⟨gB, 0, none⟩) nn bc (ns.map (Value.int .i64)) rfl (World.ownsRow.alloc hob _) (some ⟨wr.heap.size, 0, none⟩) 1 1 ([(kk : Int)].map (Value.int .i64)) rfl rfl (Rd.newRow wr _ _ _ rfl) (ints_one _) hm1 hm2 hba ?_; intro A7 c7 w7 hown7 hg7 hb7; have hc7 : Chg (In (some ⟨gB, 0, none⟩)) wr w7 := ((Chg.refl _ wr).alloc _).trans hg7 (fun x hx => .inl hx); have y0 := hc7.cell_some (p := ⟨gd, 0, none⟩) q0 hgB; have y1 : w7.frozen? ⟨gd, 0, none⟩ = false := (by rw [hc7.frozen (p := ⟨gd, 0, none⟩) bx.lt hgB]; exact bx.fz 0))
                          | (go_at_call 5; go_must (refine (hpk _).mono ?_; rintro e w' ⟨rfl, rfl⟩)))
                        have hcS : Chg (· = gd) w7 (w7.setCell ⟨gd, 0, none⟩ (.slice A7 (nn + 1) c7)) := (Chg.refl (· = gd) w7).setCell (p := ⟨gd, 0, none⟩) (.inl rfl) _
                        have bx8 := (bx.keep hc7 hgB).set 0 (.slice A7 (nn + 1) c7)
                        go_roundw
                        case rel => exact ⟨jj + 1, nn + 1, A7, c7, ns ++ [(kk : Int)], by omega, by omega, by go_num, by omega, by rw [List.length_append, HNL.out]; rfl, by simpa using bx8, by
                            rw [List.map_append]
                            exact hcS.ownS hown7 (fun x hx (e : x = gd) => by have := (own_lt hown7 hx).1; omega), ((hcx.trans hc7 (fun x hx => .inr (by have := (own_lt hob hx).1; have := HB2.out; omega))).trans hcS (fun x hx => .inl hx))⟩
                        case measure => simp [intOf]; omega
                      · have f6 : decide (zl < (kk : Int)) = false := by simpa using hlt
                        go_wp2_with (go_at_call 5; go_must (refine (hpk _).mono ?_; rintro e w' ⟨rfl, rfl⟩))
                        go_roundw
                        case rel => exact ⟨jj + 1, nn, some ⟨gB, 0, none⟩, bc, ns, by omega, by omega, by go_num, by omega, HNL.out, bx, hob, hcx⟩
                        case measure => simp [intOf]; omega
                  · have f0 : (xp == (kk : Int)) = false := by simpa using he
                    have f1 : decide (xp = (kk : Int)) = false := by simpa using he
                    go_wp2_with (go_at_call 5; go_must (refine (hpk _).mono ?_; rintro e w' ⟨rfl, rfl⟩))
                    go_roundw
                    case rel => exact ⟨jj + 1, nn, B, bc, ns, by omega, by omega, by go_num, by omega, HNL.out, bx, hob, hcx⟩
                    case measure => simp [intOf]; omega
                · by_cases hj4 : jj < v.n
                  · have j3 : (jj : Int) < (v.n : Int) := by omega
                    have j5 : ¬ (jj : Int) < 3 := by omega
                    go_wp2_with fail
                    go_roundw
                    case rel => exact ⟨kk + 1, nn, B, bc, ns, by omega, by go_num, by omega, HNL.out, bx, hob, hcx⟩
                    case measure => simp [intOf]; omega
                  · have j3 : ¬ (jj : Int) < (v.n : Int) := by omega
                    go_wp2_with fail
                    go_roundw
                    case rel => exact ⟨kk + 1, nn, B, bc, ns, by omega, by go_num, by omega, HNL.out, bx, hob, hcx⟩
                    case measure => simp [intOf]; omega
            · have j2 : ¬ (kk : Int) < (k : Int) := by omega
              subst hnsl
              have hm1 : k + 1 ≤ maxLen := by simp only [maxLen]; omega
              have hm2 : (k + 1) * 40 ≤ 140737488355328 := by omega
              have hor := hcx.ownS hoc (fun x hx (e : x = gd) => by have := hDg x hx; omega)
              have hsx := hcx.size
              have hb2 := HB2.out
              have hb0 := HB.out
              have hba : base ≤ (wr.alloc (.cells #[.slice B ns.length bc, .int .i64 (1 + y), .int .i64 (1 + z)] 85)).heap.size := by simp; omega
              go_wp2_with (at_builtin; refine wpList_append_rd _ rfl (.tmp 91) (.tmp 93) 30 rfl base 85 i0 _ 3 40 Tryz.underlying30 hi hz0 hz1 hz2 rfl (by decide) D k dc (dfC dl) rfl (World.ownsRow.alloc hor _) (some ⟨wr.heap.size, 0, none⟩) 1 1 (dfC [⟨B, bc, ns, 1 + y, 1 + z⟩]) rfl rfl (Rd.newRow wr _ _ _ rfl) (dfC_one _) hm1 hm2 hba ?_; intro A7 c7 w7 hown7 hg7 hb7; have hc7 : Chg (In D) wr w7 := ((Chg.refl _ wr).alloc _).trans hg7 (fun x hx => .inl hx))
              have hA7 : ∀ x, In A7 x → In D x ∨ wr.heap.size ≤ x := fun x hx => by
                rcases hb7 with e | e
                · exact .inl (by show blk D = some x; rw [← e]; exact hx)
                · have h1 : blk A7 = some x := hx
                  rw [e] at h1
                  injection h1 with h1
                  simp at h1
                  exact .inr (by omega)
              go_roundw
              case rel => exact ⟨k + 1, dl ++ [⟨B, bc, ns, 1 + y, 1 + z⟩], A7, c7, by omega, by omega, by go_num, rfl, by rw [List.length_append, HL.out]; rfl, by rw [dfC_app]; exact hown7, (by
                  intro d1 hd1
                  rcases List.mem_append.1 hd1 with hd1 | hd1
                  · obtain ⟨g5, g6, g7⟩ := HDS.out d1 hd1
                    have g8 := hdg d1 hd1
                    exact ⟨g5, hc7.ownS (hcx.ownS (hcd.own g6 (fun _ _ h => h)) (fun x hx (e : x = gd) => by have := g8 x hx; omega)) (fun x hx h => g7 x hx h), fun x hx h => by
                      rcases hA7 x h with h | h
                      · exact g7 x hx h
                      · have := g8 x hx; omega⟩
                  · simp only [List.mem_singleton] at hd1
                    subst hd1
                    exact ⟨by show ns.length ≤ 100; omega, own_mono (hc7.ownS hob (fun x hx h => by have h1 := (own_lt hob hx).1; have h2 := hDg x h; omega)) (by omega), fun x hx h => by
                      have h1 := own_lt hob hx
                      rcases hA7 x h with h | h
                      · have := hDg x h; omega
                      · omega⟩), ((hc.trans hcd (fun x hx => hx.elim)).trans hcx (fun x hx => .inr (by rw [hx]; omega))).trans hc7 (fun x hx => .inr (by have := (own_lt hoc hx).1; omega))⟩
              case measure => simp [intOf]; omega
      · have hend : ∃ (dl' : List Df) (D' : Option Addr) (dn dc' : Nat), (Value.slice D k dc) = .slice D' dn dc' ∧ dn ≤ 6 ∧ dl'.length = dn ∧ wr.ownsRow base 85 3 (.slice D' dn dc') dn (dfC dl') ∧ (∀ d ∈ dl', d.ns.length ≤ 255 ∧ Rd wr d.A (d.ns.map (Value.int .i64)) ∧ ∀ x, In d.A x → base ≤ x ∧ ¬ In D' x) ∧ Chg (fun _ => False) w wr :=
          ⟨dl, D, k, dc, rfl, hk6, HL.out, ho, (fun d hd => ⟨by have := (HDS.out d hd).1; omega, Rd.of_own (HDS.out d hd).2.1, fun x hx => ⟨(own_lt (HDS.out d hd).2.1 hx).1, (HDS.out d hd).2.2 x hx⟩⟩), hc⟩
        have HE := Lib.hid hend
        clear hend
        by_cases hk : k < n
        · have j0 : (k : Int) < (n : Int) := by omega
          have j1 : ¬ (k : Int) < 6 := by omega
          go_wp2_with fail
          go_meet
          exact HE.out
        · have j0 : ¬ (k : Int) < (n : Int) := by omega
          go_wp2_with fail
          go_meet
          exact HE.out
  case rest =>
    obtain ⟨dl, D, dn, dc, rfl, hd6, hl, ho, hds, hc⟩ := hcut
    go_upto_if 97 with fail
    go_cut [5] from 98 to 99 (fun out w' => ∃ (dl : List Df) (g dn dc : Nat), out = .slice (some ⟨g, 0, none⟩) dn dc ∧ 1 ≤ dn ∧ dn ≤ 6 ∧ DefsAt w' base g dn dc dl ∧ Chg (fun _ => False) w w')
    case first =>
      by_cases h0 : dn = 0
      · have f0 : ((dn : Int) == 0) = true := by simp; omega
        have f1 : decide ((dn : Int) = 0) = true := by simp; omega
        have H0 := Lib.hid h0
        have hbw : base ≤ wc.heap.size := by have h1 := hc.size; have h2 := HB.out; omega
        clear h0
        go_wp2_with fail
        go_meet
        exact ⟨[⟨none, 0, [], 1, 5⟩], wc.heap.size, 1, 1, rfl, by omega, by omega, ⟨own_lit wc base 85 3 1 _ hbw (by decide) rfl, rfl, fun d hd => by
          simp only [List.mem_singleton] at hd
          subst hd
          exact ⟨by decide, Rd.nil _ _, fun x hx => by cases hx⟩⟩, hc.alloc _⟩
      · obtain ⟨g, rfl⟩ : ∃ g, D = some ⟨g, 0, none⟩ := by
          rcases ho.2 with ⟨_, h1⟩ | ⟨g9, cap9, cur9, hv9, _⟩
          · exact absurd h1 h0
          · injection hv9 with h9; exact ⟨g9, h9⟩
        have f0 : ((dn : Int) == 0) = false := by simp; omega
        have f1 : decide ((dn : Int) = 0) = false := by simp; omega
        have hend : ∃ (dl' : List Df) (g' dn' dc' : Nat), (Value.slice (some ⟨g, 0, none⟩) dn dc) = .slice (some ⟨g', 0, none⟩) dn' dc' ∧ 1 ≤ dn' ∧ dn' ≤ 6 ∧ DefsAt wc base g' dn' dc' dl' ∧ Chg (fun _ => False) w wc :=
          ⟨dl, g, dn, dc, rfl, by omega, hd6, ⟨ho, hl, fun d hd => ⟨(hds d hd).1, (hds d hd).2.1, fun x hx => ⟨((hds d hd).2.2 x hx).1, fun e => ((hds d hd).2.2 x hx).2 (by rw [e]; rfl)⟩⟩⟩, hc⟩
        have HE := Lib.hid hend
        clear hend ho hds hc hl h0
        go_wp2_with fail
        go_meet
        exact HE.out
    case rest =>
      clear ho hds hc hl hd6
      obtain ⟨dl, g, dn, dc, rfl, hd1, hd6, hD, hc⟩ := hcut
      go_upto_region 19 with (go_at_call 5; go_must (refine (pick_nat _ _ _ (by omega) (by omega)).mono ?_; rintro e w' ⟨r, hr, rfl, rfl⟩))
      rename_i kk hkk K1 a1 K2 a2
      have hk2 : kk < dl.length := by have := hD.len; omega
      have j0 : (0 : Int) ≤ (kk : Int) := by omega
      have j1 : (kk : Int) < (dn : Int) := by omega
      have j2 : (0 : Int) < (dn : Int) := by omega
      have h02 : 0 < dl.length := by omega
      have hbg := hD.lt
      have hbw : base = w.heap.size := HB.out
      have HBW := Lib.hid hbw
      have hgw : w.heap.size ≤ g := by omega
      clear hbw
      rcases (by omega : r = 0 ∨ r = 1 ∨ r = 2 ∨ r = 3 ∨ r = 4 ∨ r = 5 ∨ 5 < r) with rfl | rfl | rfl | rfl | rfl | rfl | hr6
      · have hal := hD.still (S := fun _ => False) ((Chg.refl _ wc).alloc (.cells #[.int .i64 (kk : Int)] 3))
        have c0 := hal.own.cellAt (kk * 3) (by omega)
        rw [(dfC_get dl kk hk2).1] at c0
        have z0 := hal.own.frozenAt (kk * 3)
        have hrd := Rd.newRow wc 3 #[.int .i64 (kk : Int)] ([(kk : Int)].map (Value.int .i64)) rfl
        go_wp2_with fail
        go_ret
        have hx := (hal.put kk ⟨some ⟨wc.heap.size, 0, none⟩, 1, [(kk : Int)], dl[kk].tr, dl[kk].le⟩ (kk * 3) _ (dfC_set0 _ _ _ dl kk hk2) (by simp) hrd (fun x hx => by injection hx with hx; simp at hx; omega)).fin HBW.out hd6 ((hc.alloc _).setCell (p := ⟨g, kk * 3, none⟩) (.inr hgw) _)
        rw [World.setCell_alloc_past _ g _ _ hbg.2] at hx
        exact hx
      · have e1 : IntKind.i64.wrap ((dn : Int) - 1) = (dn : Int) - 1 := IntWalk.i64_in _ (by omega)
        have hal := hD.still (S := fun _ => False) ((Chg.refl _ wc).alloc (.cells #[.int .i64 ((dn : Int) - 1)] 3))
        have c0 := hal.own.cellAt 0 (by omega)
        rw [show (0 : Nat) = 0 * 3 from rfl, (dfC_get dl 0 h02).1] at c0
        have z0 := hal.own.frozenAt 0
        have hrd := Rd.newRow wc 3 #[.int .i64 ((dn : Int) - 1)] ([(dn : Int) - 1].map (Value.int .i64)) rfl
        go_wp2_with fail
        go_ret
        have hx := (hal.put 0 ⟨some ⟨wc.heap.size, 0, none⟩, 1, [(dn : Int) - 1], dl[0].tr, dl[0].le⟩ 0 _ (dfC_set0 _ _ _ dl 0 h02) (by simp) hrd (fun x hx => by injection hx with hx; simp at hx; omega)).fin HBW.out hd6 ((hc.alloc _).setCell (p := ⟨g, 0, none⟩) (.inr hgw) _)
        rw [World.setCell_alloc_past _ g _ _ hbg.2] at hx
        exact hx
      · have c0 := hD.own.cellAt (kk * 3 + 1) (by omega)
        rw [(dfC_get dl kk hk2).2.1] at c0
        have z0 := hD.own.frozenAt (kk * 3 + 1)
        go_wp2_with (go_at_call 5; go_must (refine (pick_nat _ _ _ (by omega) (by omega)).mono ?_; rintro e w' ⟨r, hr, rfl, rfl⟩; have e1 : IntKind.i64.wrap ((r : Int) - 1) = (r : Int) - 1 := IntWalk.i64_in _ (by omega)))
        go_ret
        exact (hD.put kk ⟨dl[kk].A, dl[kk].c, dl[kk].ns, (r : Int) - 1, dl[kk].le⟩ (kk * 3 + 1) (.int .i64 ((r : Int) - 1)) (dfC_set1 _ dl kk hk2) (hD.ns _ (List.getElem_mem hk2)).1 (hD.ns _ (List.getElem_mem hk2)).2.1 (hD.ns _ (List.getElem_mem hk2)).2.2).fin HBW.out hd6 (hc.setCell (p := ⟨g, kk * 3 + 1, none⟩) (.inr hgw) _)
      · have hal := fun x : Int => hD.still (S := fun _ => False) ((Chg.refl _ wc).alloc (.cells #[.int .i64 x] 3))
        go_wp2_with (go_at_call 5; go_must (refine (pick_nat _ _ _ (by omega) (by omega)).mono ?_; rintro e w' ⟨r, hr, rfl, rfl⟩; have hal := hal (r : Int); have c0 := hal.own.cellAt (kk * 3) (by omega); rw [(dfC_get dl kk hk2).1] at c0; have z0 := hal.own.frozenAt (kk * 3)))
        go_ret
        have hx := (hal.put kk ⟨some ⟨wc.heap.size, 0, none⟩, 1, [(r : Int)], dl[kk].tr, dl[kk].le⟩ (kk * 3) _ (dfC_set0 _ _ _ dl kk hk2) (by simp) (Rd.newRow wc 3 #[.int .i64 (r : Int)] ([(r : Int)].map (Value.int .i64)) rfl) (fun x hx => by injection hx with hx; simp at hx; omega)).fin HBW.out hd6 ((hc.alloc _).setCell (p := ⟨g, kk * 3, none⟩) (.inr hgw) _)
        rw [World.setCell_alloc_past _ g _ _ hbg.2] at hx
        exact hx
      · have c0 := hD.own.cellAt (kk * 3 + 2) (by omega)
        rw [(dfC_get dl kk hk2).2.2] at c0
        have z0 := hD.own.frozenAt (kk * 3 + 2)
        go_wp2_with fail
        go_ret
        exact (hD.put kk ⟨dl[kk].A, dl[kk].c, dl[kk].ns, dl[kk].tr, 0⟩ (kk * 3 + 2) _ (dfC_set2 _ dl kk hk2) (hD.ns _ (List.getElem_mem hk2)).1 (hD.ns _ (List.getElem_mem hk2)).2.1 (hD.ns _ (List.getElem_mem hk2)).2.2).fin HBW.out hd6 (hc.setCell (p := ⟨g, kk * 3 + 2, none⟩) (.inr hgw) _)
      · have hal := hD.still (S := fun _ => False) ((Chg.refl _ wc).alloc (.cells #[.int .i64 1, .int .i64 0] 3))
        have c0 := hal.own.cellAt (kk * 3) (by omega)
        rw [(dfC_get dl kk hk2).1] at c0
        have z0 := hal.own.frozenAt (kk * 3)
        have hrd := Rd.newRow wc 3 #[.int .i64 1, .int .i64 0] ([(1 : Int), 0].map (Value.int .i64)) rfl
        go_wp2_with fail
        go_ret
        have hx := (hal.put kk ⟨some ⟨wc.heap.size, 0, none⟩, 2, [1, 0], dl[kk].tr, dl[kk].le⟩ (kk * 3) _ (dfC_set0 _ _ _ dl kk hk2) (by simp) hrd (fun x hx => by injection hx with hx; simp at hx; omega)).fin HBW.out hd6 ((hc.alloc _).setCell (p := ⟨g, kk * 3, none⟩) (.inr hgw) _)
        rw [World.setCell_alloc_past _ g _ _ hbg.2] at hx
        exact hx
      · have f0 : ¬ (r : Int) = 0 := by omega
        have f1 : ¬ (r : Int) = 1 := by omega
        have f2 : ¬ (r : Int) = 2 := by omega
        have f3 : ¬ (r : Int) = 3 := by omega
        have f4 : ¬ (r : Int) = 4 := by omega
        have f5 : ¬ (r : Int) = 5 := by omega
        go_wp2_with fail
        go_ret
        exact hD.fin HBW.out hd6 hc
end Go.Proofs.YtngfimjbgopgjaaGreatDoor
