/- StOrd, StRdy, in one text (merge.py). -/
import Derived.Test.YtngfimjbgopgjaaGreatDoorStMetAll
import Derived.Laws.OwnMore
import Derived.Test.YtngfimjbgopgjaaGreatDoorOne
import Derived.BigQuiet
/- Contract of cutoverref11.order: it gives some places. -/
namespace Go.Proofs.YtngfimjbgopgjaaGreatDoor
open Go.RowKit
set_option linter.unusedVariables false

theorem boolInfo : (Tryz.prog.info? 4).map (fun i => (i.zero, i.size, i.bytes)) = some (some (.bool false), 1, 1) := by kernel_rfl
theorem Chg.of_none {w w' : World} (h : w.grownBy w' none) : Chg (fun _ => False) w w' := ⟨h.os, h.tape, h.output, h.size, fun i hi _ => h.block i hi (fun e => by cases e)⟩
def lenOf : Value → Nat
  | .slice _ m _ => m
  | _ => 0
def boolOf : Value → Nat
  | .bool true => 1
  | _ => 0
theorem count_le {bs : List Bool} : bs.count true ≤ bs.length := List.count_le_length
theorem count_set {bs : List Bool} {j : Nat} (h : j < bs.length) (hf : bs[j] = false) : (bs.set j true).count true = bs.count true + 1 := by
  rw [List.count_set h, hf]
  simp

set_option maxHeartbeats 4000000 in
set_option maxRecDepth 20000 in
theorem order_any (D : Option Addr) (dc : Nat) (dl : List Df) (w : World) (hD : RdDf w D dl) (hd8 : dl.length ≤ 8) (hns : ∀ d ∈ dl, NsOk d) :
    Calls Tryz.prog 101 #[.slice D dl.length dc] w (SomeIs dl.length w) := by
  obtain ⟨i1, ki, kz0, kz1, kz2⟩ := info_parts intInfo
  obtain ⟨i2, bi, bz0, bz1, bz2⟩ := info_parts boolInfo
  have HD := Lib.hid hD
  have HN := Lib.hid hns
  obtain ⟨n, hn⟩ : ∃ n, n = dl.length := ⟨_, rfl⟩
  have HNL := Lib.hid hn
  rw [← hn] at hd8
  rw [← hn]
  clear hD hns hn
  obtain ⟨w1, hrun, hown, hgrow⟩ := run_make_full (P := Tryz.prog) w w.heap.size 138 4 i2 (.bool false) 1 Tryz.underlying138 bi bz0 bz1 .i64 .i64 n (by rw [bz2]; omega) (by simp only [maxLen]; omega) (Nat.le_refl _)
  have hz : (madeCells (Value.cells (.bool false)) (n * 1)).toList = (List.replicate n false).map Value.bool := by
    rw [Nat.mul_one, show Value.cells (.bool false) = #[.bool false] from rfl, toList_madeCells_one, List.map_replicate]
  rw [hz] at hown
  have hc1 := Chg.of_none hgrow
  have hg1 : w.heap.size < w1.heap.size := (own_lt hown rfl).2
  clear hz hgrow
  go_enter Tryz.func101, Tryz.ntmps101
  go_wp2_with fail
  clear hrun
  obtain ⟨base, hbase⟩ : ∃ base, base = w1.heap.size := ⟨_, rfl⟩
  have hgb : w.heap.size < base := by omega
  have HBS := Lib.hid hbase
  clear hbase
  go_loopw [4, 5] (fun out a w' => ∃ (bs : List Bool) (O : Option Addr) (oc m : Nat) (l : List Int) (av : Bool), a = .bool av ∧ out = .slice O m oc ∧ l.length = m ∧ bs.length = n ∧ bs.count true = m ∧ (∀ x ∈ l, 0 ≤ x ∧ x < n) ∧ w'.ownsRow base 3 1 (.slice O m oc) m (l.map (Value.int .i64)) ∧ w'.ownsRow w.heap.size 4 1 (.slice (some ⟨w.heap.size, 0, none⟩) n n) n (bs.map Value.bool) ∧ Chg (· = w.heap.size) w1 w') (fun out a _ => 2 * (n - lenOf out) + boolOf a)
  case atStart => exact ⟨List.replicate n false, none, 0, 0, [], true, rfl, rfl, rfl, List.length_replicate, by simp [List.count_replicate], (fun x hx => by cases hx), World.ownsRow_nil _ _ _ _, hown, Chg.refl _ _⟩
  case round =>
    clear hown
    obtain ⟨bs, O, oc, m, l, av, rfl, rfl, hl, hbs, hct, hlb, ho, hod, hc⟩ := hrel
    have hm0 : m ≤ n := by rw [← hct, ← hbs]; exact count_le
    cases av
    · go_wp2_with fail
      go_ret
      exact ⟨O, m, oc, l, rfl, hl, hm0, hlb, own_mono ho (by omega), hc1.trans hc (fun x hx => .inr (by rw [hx]; exact Nat.le_refl _))⟩
    · obtain ⟨m0, hm⟩ : ∃ m0, m0 = m := ⟨_, rfl⟩
      have HM := Lib.hid hm
      clear hm
      go_wp2_with fail
      go_loopw [4, 5, 6] (fun out a i w' => ∃ (bs : List Bool) (O : Option Addr) (oc m : Nat) (l : List Int) (av : Bool) (j : Nat), i = .int .i64 j ∧ j ≤ n ∧ (av = false → m = m0) ∧ (av = true → m = m0 + 1) ∧ a = .bool av ∧ out = .slice O m oc ∧ l.length = m ∧ bs.length = n ∧ bs.count true = m ∧ (∀ x ∈ l, 0 ≤ x ∧ x < n) ∧ w'.ownsRow base 3 1 (.slice O m oc) m (l.map (Value.int .i64)) ∧ w'.ownsRow w.heap.size 4 1 (.slice (some ⟨w.heap.size, 0, none⟩) n n) n (bs.map Value.bool) ∧ Chg (· = w.heap.size) w1 w') (fun _ _ i _ => n - (intOf i).toNat)
      case atStart => exact ⟨bs, O, oc, m, l, false, 0, rfl, by omega, fun _ => HM.out.symm, fun h => (by cases h), rfl, rfl, hl, hbs, hct, hlb, ho, hod, hc⟩
      case round =>
        clear hl hbs hct hlb ho hod hc hm0
        obtain ⟨bs, O, oc, m, l, av, j, rfl, hj, hm1, hm2, rfl, rfl, hl, hbs, hct, hlb, ho, hod, hc⟩ := hrel
        have hm0 : m ≤ n := by rw [← hct, ← hbs]; exact count_le
        have HL := Lib.hid hl
        have HBL := Lib.hid hbs
        have HCT := Lib.hid hct
        have HLB := Lib.hid hlb
        have HM1 := Lib.hid hm1
        have HM2 := Lib.hid hm2
        clear hl hbs hct hlb hm1 hm2
        have hcw : Chg (fun _ => False) w wr := hc1.trans hc (fun x hx => .inr (by rw [hx]; exact Nat.le_refl _))
        by_cases hgo : j < n ∧ av = false
        · obtain ⟨hjn, rfl⟩ := hgo
          have hjl : j < dl.length := by rw [← HNL.out]; exact hjn
          have hrk := HD.out.still hcw
          obtain ⟨b, o, hDA, _⟩ := hrk.rd.at_ (k := 0) (by rw [dfC_len]; omega)
          obtain ⟨p0, p1, p2⟩ := dfC_get dl j hjl
          have r0 := hrk.rd.cells hDA _ _ p0
          have r1 := hrk.rd.cells hDA _ _ p1
          have r2 := hrk.rd.cells hDA _ _ p2
          rw [← Nat.add_assoc] at r1 r2
          have hdn := hrk.ns dl[j] (List.getElem_mem _)
          have hok := HN.out dl[j] (List.getElem_mem _)
          obtain ⟨d, hd⟩ : ∃ d, d = dl[j] := ⟨_, rfl⟩
          rw [← hd] at r0 r1 r2 hdn hok
          clear hd p0 p1 p2
          have HOK := Lib.hid hok
          clear hok
          rw [hDA]
          have hjb : j < bs.length := by rw [HBL.out]; exact hjn
          have c0 := hod.cellAt j (by omega)
          rw [List.getElem?_map, List.getElem?_eq_getElem hjb] at c0
          simp only [Option.map_some] at c0
          have hmet := met_any d (some ⟨w.heap.size, 0, none⟩) n bs wr hdn (Rd.of_own hod) HOK.out (by rw [HBL.out]; omega)
          rw [HBL.out] at hmet
          have j0 : (0 : Int) ≤ (j : Int) := by omega
          have j1 : (j : Int) < (n : Int) := by omega
          obtain ⟨bv, hbv⟩ : ∃ bv, bv = bs[j] := ⟨_, rfl⟩
          rw [← hbv] at c0
          have HBV := Lib.hid hbv
          clear hbv
          go_upto_region 9 with fail
          go_cut [33] from 11 to 40 (fun v w' => (∃ b : Bool, v = .bool b ∧ (b = true → bv = false)) ∧ Chg (fun _ => False) wr w')
          case first =>
            cases bv
            · go_wp2_with (go_at_call 106; go_must (refine hmet.mono ?_; rintro e w2 ⟨⟨b, rfl⟩, hc2⟩))
              go_meet
              exact ⟨⟨_, rfl, fun _ => (by first | rfl | trivial)⟩, hc2⟩
            · go_wp2_with fail
              go_meet
              exact ⟨⟨_, rfl, fun h => (by cases h)⟩, Chg.refl _ _⟩
          case rest =>
            obtain ⟨⟨v, rfl, hv⟩, hc2⟩ := hcut
            have ho2 := hc2.own ho (fun _ _ h => h)
            have hod2 := hc2.own hod (fun _ _ h => h)
            have hcX := hc.trans hc2 (fun x hx => hx.elim)
            clear r0 r1 r2 c0 hmet
            cases v
            · go_wp2_with fail
              go_roundw
              case rel => exact ⟨bs, O, oc, m, l, false, j + 1, by go_num, by omega, HM1.out, HM2.out, rfl, rfl, HL.out, HBL.out, HCT.out, HLB.out, ho2, hod2, hcX⟩
              case measure => simp [intOf]; omega
            · have hbf := hv rfl
              have c1 := hod2.cellAt j (by omega)
              rw [List.getElem?_map, List.getElem?_eq_getElem hjb] at c1
              simp only [Option.map_some] at c1
              have z1 := hod2.frozenAt j
              have hOg : ∀ x, In O x → base ≤ x ∧ x < wc.heap.size := fun x hx => own_lt ho2 hx
              have hcS := chg_put wc w.heap.size j (.bool true)
              have ho3 := hcS.ownS ho2 (fun x hx (e : x = w.heap.size) => by have := (hOg x hx).1; omega)
              have hod3 := (hod2.stored j (.bool true)).1
              rw [← List.map_set] at hod3
              have hl1 : m + 1 ≤ maxLen := by simp only [maxLen]; omega
              have hl2 : (m + 1) * 8 ≤ 140737488355328 := by omega
              have hsz := hcX.size
              have hsS := hcS.size
              have hbase2 := HBS.out
              have HBF := Lib.hid hbf
              clear hbf hv
              go_upto_region 11 with fail
              obtain ⟨wS, hwS⟩ : ∃ wS, wS = wc.setCell ⟨w.heap.size, j, none⟩ (.bool true) := ⟨_, rfl⟩
              rw [← hwS] at hcS ho3 hod3 hsS ⊢
              clear hwS c1 z1
              have hba : base ≤ (wS.alloc (.cells #[.int .i64 (j : Int)] 3)).heap.size := by simp; omega
              go_wp2_with (at_builtin; refine wpList_append_rd _ rfl (.tmp 37) (.tmp 39) 81 rfl base 3 i1 _ 1 8 Tryz.underlying81 ki kz0 kz1 kz2 rfl (by decide) O m oc (l.map (Value.int .i64)) rfl (World.ownsRow.alloc ho3 _) (some ⟨wS.heap.size, 0, none⟩) 1 1 ([(j : Int)].map (Value.int .i64)) rfl rfl (Rd.newRow wS _ _ _ rfl) (ints_one _) hl1 hl2 hba ?_; intro A7 c7 w7 hown7 hg7 hb7; have hc7 : Chg (In O) wS w7 := ((Chg.refl _ wS).alloc _).trans hg7 (fun x hx => .inl hx))
              go_roundw
              case rel => exact ⟨bs.set j true, A7, c7, m + 1, l ++ [(j : Int)], true, j + 1, by go_num, by omega, fun h => (by cases h), fun _ => (by have := HM1.out rfl; omega), rfl, rfl, by rw [List.length_append, HL.out]; rfl, by rw [List.length_set]; exact HBL.out, by rw [count_set hjb (by rw [← HBV.out]; exact HBF.out), HCT.out], (fun x hx => by
                rcases List.mem_append.1 hx with hx | hx
                · exact HLB.out x hx
                · simp only [List.mem_singleton] at hx; subst hx; omega), by rw [List.map_append]; exact hown7, hc7.ownS hod3 (fun x hx h => by have h1 := (hOg x h).1; injection hx with hx; simp at hx; omega), (hcX.trans hcS (fun x hx => .inl hx)).trans hc7 (fun x hx => .inr (by have h1 := (hOg x hx).1; omega))⟩
              case measure => simp [intOf]; omega
        · by_cases hjn : j < n
          · have hav : av = true := by cases av; exact absurd ⟨hjn, rfl⟩ hgo; rfl
            subst hav
            have j1 : (j : Int) < (n : Int) := by omega
            go_wp2_with fail
            go_roundw
            case rel => exact ⟨bs, O, oc, m, l, true, rfl, rfl, HL.out, HBL.out, HCT.out, HLB.out, ho, hod, hc⟩
            case measure =>
              have h1 := HM2.out rfl
              have h2 := HM.out
              simp [lenOf, boolOf]; omega
          · have j1 : ¬ (j : Int) < (n : Int) := by omega
            go_wp2_with fail
            go_roundw
            case rel => exact ⟨bs, O, oc, m, l, av, rfl, rfl, HL.out, HBL.out, HCT.out, HLB.out, ho, hod, hc⟩
            case measure =>
              have h2 := HM.out
              cases av
              · have h1 := HM1.out rfl
                simp [lenOf, boolOf]; omega
              · have h1 := HM2.out rfl
                simp [lenOf, boolOf]; omega
end Go.Proofs.YtngfimjbgopgjaaGreatDoor

/- Contract of cutoverref11.ReadyNodes. -/
namespace Go.Proofs.YtngfimjbgopgjaaGreatDoor
open Go.RowKit
set_option linter.unusedVariables false

theorem bools_one (l : List Bool) : ∀ u ∈ l.map Value.bool, u.oneCell' = true := by
  intro u hu
  obtain ⟨b, _, rfl⟩ := List.mem_map.1 hu
  rfl
theorem SomeIs.nil (n : Nat) {w w' : World} (hc : Chg (fun _ => False) w w') : SomeIs n w (.returned (.slice none 0 0)) w' := ⟨none, 0, 0, [], rfl, rfl, Nat.zero_le _, (fun x hx => by cases hx), World.ownsRow_nil _ _ _ _, hc⟩

set_option maxHeartbeats 4000000 in
set_option maxRecDepth 20000 in
theorem readyNodes_any (s : StV) (w : World) (h : StOk w s) : Calls Tryz.prog 96 #[s.val] w (SomeIs s.nl.length w) := by
  obtain ⟨i1, ki, kz0, kz1, kz2⟩ := info_parts intInfo
  obtain ⟨i2, bi, bz0, bz1, bz2⟩ := info_parts boolInfo
  unfold StV.val StV.row
  have bx := BoxAt.new w 78 #[.int .i64 s.id, .int .i64 s.ver, .int .i64 s.tm, .int .i64 s.cl, .bool s.ca, .slice s.D s.dl.length s.dc, .slice s.N s.nl.length s.nc, .slice s.T s.tl.length s.tc, .slice s.S s.sl.length s.sc]
  have hc0 : Chg (fun _ => False) w (w.alloc (.cells #[.int .i64 s.id, .int .i64 s.ver, .int .i64 s.tm, .int .i64 s.cl, .bool s.ca, .slice s.D s.dl.length s.dc, .slice s.N s.nl.length s.nc, .slice s.T s.tl.length s.tc, .slice s.S s.sl.length s.sc] 78)) := (Chg.refl _ _).alloc _
  have HO := Lib.hid h
  have HDN := Lib.hid h.dn
  have hd8 := h.d8
  have hn8 : s.nl.length ≤ 8 := by rw [← h.dn]; exact h.d8
  clear h
  obtain ⟨w1, hw1⟩ : ∃ w1, w1 = w.alloc (.cells #[.int .i64 s.id, .int .i64 s.ver, .int .i64 s.tm, .int .i64 s.cl, .bool s.ca, .slice s.D s.dl.length s.dc, .slice s.N s.nl.length s.nc, .slice s.T s.tl.length s.tc, .slice s.S s.sl.length s.sc] 78) := ⟨_, rfl⟩
  rw [← hw1] at bx hc0
  go_enter Tryz.func96, Tryz.ntmps96
  go_upto_region 1 with fail
  rw [← hw1]
  clear hw1
  have q3 : w1.cell? ⟨w.heap.size, 3, none⟩ = some (.int .i64 s.cl) := bx.cell 3 rfl
  have q4 : w1.cell? ⟨w.heap.size, 4, none⟩ = some (.bool s.ca) := bx.cell 4 rfl
  obtain ⟨ca, hca⟩ : ∃ ca, ca = s.ca := ⟨_, rfl⟩
  rw [← hca] at q4
  have HCA := Lib.hid hca
  clear hca
  go_cut [14] from 8 to 13 (fun v w' => (∃ b : Bool, v = .bool b) ∧ w' = w1)
  case first =>
    by_cases hcl : s.cl = 0
    · have f0 : (s.cl != 0) = false := by simpa using hcl
      have f1 : decide (s.cl = 0) = true := by simpa using hcl
      cases ca
      all_goals
        go_wp2_with fail
        go_meet
        exact ⟨⟨_, rfl⟩, rfl⟩
    · have f0 : (s.cl != 0) = true := by simpa using hcl
      have f1 : decide (s.cl = 0) = false := by simpa using hcl
      go_wp2_with fail
      go_meet
      exact ⟨⟨_, rfl⟩, rfl⟩
  case rest =>
    obtain ⟨⟨b, rfl⟩, rfl⟩ := hcut
    clear q3 q4
    cases b
    rotate_left
    · go_wp2_with fail
      go_ret
      exact SomeIs.nil _ hc0
    · have q6 : wc.cell? ⟨w.heap.size, 6, none⟩ = some (.slice s.N s.nl.length s.nc) := bx.cell 6 rfl
      obtain ⟨base, hbase⟩ : ∃ base, base = wc.heap.size := ⟨_, rfl⟩
      have hgb : w.heap.size < base := by rw [hbase]; exact bx.lt
      have HBS := Lib.hid hbase
      clear hbase
      go_upto_block 0 with fail
      go_cut [3] from 4 to 31 (fun v w' => ∃ (A : Option Addr) (c : Nat) (bs : List Bool), v = .slice A bs.length c ∧ bs.length ≤ 8 ∧ Rd w' A (bs.map Value.bool) ∧ Chg (fun _ => False) wc w')
      case first =>
        go_wp2_with fail
        go_loopw [3, 4] (fun d i w' => ∃ (j : Nat) (A : Option Addr) (c : Nat) (bs : List Bool), j ≤ s.nl.length ∧ i = .int .i64 j ∧ d = .slice A j c ∧ bs.length = j ∧ w'.ownsRow base 4 1 (.slice A j c) j (bs.map Value.bool) ∧ Chg (fun _ => False) wc w') (fun _ i _ => s.nl.length - (intOf i).toNat)
        case atStart => exact ⟨0, none, 0, [], by omega, rfl, rfl, rfl, World.ownsRow_nil _ _ _ _, Chg.refl _ _⟩
        case round =>
          obtain ⟨j, A, c, bs, hj, rfl, rfl, hbl, ho, hc⟩ := hrel
          have HBL := Lib.hid hbl
          clear hbl
          have q6' := hc.cell_some q6 (fun h => h)
          by_cases hjn : j < s.nl.length
          · have hr := (HO.out.nd.keep hc0 (fun _ _ h => h)).keep hc (fun _ _ h => h)
            obtain ⟨b, o, hA, _⟩ := hr.at_ (k := 0) (by rw [ndC_len]; omega)
            have hp := ndC_get s.nl j hjn
            have c0 := hr.cells hA _ _ hp.1
            obtain ⟨x, hx⟩ : ∃ x, x = s.nl[j].st := ⟨_, rfl⟩
            rw [← hx] at c0
            clear hx hp hr
            rw [hA] at q6'
            clear hA
            have j0 : (0 : Int) ≤ (j : Int) := by omega
            have j1 : (j : Int) < (s.nl.length : Int) := by omega
            have hl1 : j + 1 ≤ maxLen := by simp only [maxLen]; omega
            have hl2 : (j + 1) * 1 ≤ 140737488355328 := by omega
            have hba : base ≤ (wr.alloc (.cells #[.bool (x == 2)] 4)).heap.size := by have h1 := hc.size; have h2 := HBS.out; simp; omega
            go_wp2_with (at_builtin; refine wpList_append_rd _ rfl (.tmp 22) (.tmp 30) 138 rfl base 4 i2 _ 1 1 Tryz.underlying138 bi bz0 bz1 bz2 rfl (by decide) A j c (bs.map Value.bool) rfl (World.ownsRow.alloc ho _) (some ⟨wr.heap.size, 0, none⟩) 1 1 ([x == 2].map Value.bool) rfl rfl (Rd.newRow wr _ _ _ rfl) (bools_one _) hl1 hl2 hba ?_; intro A7 c7 w7 hown7 hg7 hb7; have hc7 : Chg (In A) wr w7 := ((Chg.refl _ wr).alloc _).trans hg7 (fun x hx => .inl hx))
            go_roundw
            case rel => exact ⟨j + 1, A7, c7, bs ++ [x == 2], by omega, by go_num, rfl, by rw [List.length_append, HBL.out]; rfl, by rw [List.map_append]; exact hown7, hc.trans hc7 (fun x hx => .inr (by have h1 := (own_lt ho hx).1; have h2 := HBS.out; omega))⟩
            case measure => simp [intOf]; omega
          · have j1 : ¬ (j : Int) < (s.nl.length : Int) := by omega
            have HOUT := Lib.hid (show ∃ (A' : Option Addr) (c' : Nat) (bs : List Bool), (Value.slice A j c) = .slice A' bs.length c' ∧ bs.length ≤ 8 ∧ Rd wr A' (bs.map Value.bool) ∧ Chg (fun _ => False) wc wr from ⟨A, c, bs, by rw [HBL.out], by rw [HBL.out]; omega, Rd.of_own ho, hc⟩)
            go_wp2_with fail
            go_meet
            exact HOUT.out
      case rest =>
        obtain ⟨A, c, bs, rfl, hb8, hbr, hcA⟩ := hcut
        clear q6
        have hcB := hc0.trans hcA (fun x hx => hx.elim)
        have bx2 := bx.keep hcA (fun h => h)
        have q5 : wc.cell? ⟨w.heap.size, 5, none⟩ = some (.slice s.D s.dl.length s.dc) := bx2.cell 5 rfl
        have hrdy := ready_any s.D s.dc s.dl A c bs wc (HO.out.ds.still hcB) hd8 (fun d hd => HO.out.ns d hd) hbr (by omega)
        go_upto_region 10 with (go_at_call 104; go_must (refine hrdy.mono ?_; rintro e w2 ⟨L, ln, lc, l, rfl, hll, hln, hlb, hlo, hc2⟩))
        have hcC := hcB.trans hc2 (fun x hx => hx.elim)
        have q6 : w2.cell? ⟨w.heap.size, 6, none⟩ = some (.slice s.N s.nl.length s.nc) := (bx2.keep hc2 (fun h => h)).cell 6 rfl
        have hLr := Rd.of_own hlo
        have HLL := Lib.hid hll
        have HLB := Lib.hid hlb
        clear hbr bx bx2 hcB hcA hc0 q5 hlo hc2 hll hlb
        obtain ⟨base2, hbase⟩ : ∃ base2, base2 = w2.heap.size := ⟨_, rfl⟩
        have hb2 : w.heap.size ≤ base2 := by rw [hbase]; exact hcC.size
        have HB2 := Lib.hid hbase
        clear hbase
        go_wp2_with fail
        go_loopw [5, 7] (fun out i w' => ∃ (j m : Nat) (O : Option Addr) (oc : Nat) (ol : List Int), j ≤ ln ∧ m ≤ j ∧ i = .int .i64 j ∧ out = .slice O m oc ∧ ol.length = m ∧ (∀ x ∈ ol, 0 ≤ x ∧ x < s.nl.length) ∧ w'.ownsRow base2 3 1 (.slice O m oc) m (ol.map (Value.int .i64)) ∧ Chg (fun _ => False) w2 w') (fun _ i _ => ln - (intOf i).toNat)
        case atStart => exact ⟨0, 0, none, 0, [], by omega, by omega, rfl, rfl, rfl, (fun x hx => by cases hx), World.ownsRow_nil _ _ _ _, Chg.refl _ _⟩
        case round =>
          obtain ⟨j, m, O, oc, ol, hj, hm, rfl, rfl, hol, hob, ho, hc⟩ := hrel
          have HOL := Lib.hid hol
          have HOB := Lib.hid hob
          clear hol hob
          by_cases hjn : j < ln
          · have q6' := hc.cell_some q6 (fun h => h)
            obtain ⟨b5, o5, hLA, hq5⟩ := (hLr.keep hc (fun _ _ h => h)).at_ (k := j) (by rw [List.length_map, HLL.out]; exact hjn)
            rw [List.getElem_map] at hq5
            have hx := HLB.out (l[j]'(by rw [HLL.out]; exact hjn)) (List.getElem_mem _)
            obtain ⟨x, hxe⟩ : ∃ x, x = l[j]'(by rw [HLL.out]; exact hjn) := ⟨_, rfl⟩
            rw [← hxe] at hq5 hx
            clear hxe
            obtain ⟨xk, rfl⟩ : ∃ xk : Nat, x = (xk : Int) := ⟨x.toNat, by omega⟩
            have hxn : xk < s.nl.length := by have := HDN.out; omega
            have hr := (HO.out.nd.keep hcC (fun _ _ h => h)).keep hc (fun _ _ h => h)
            obtain ⟨b, o, hA, _⟩ := hr.at_ (k := 0) (by rw [ndC_len]; omega)
            have hp := ndC_get s.nl xk hxn
            have c0 := hr.cells hA _ _ hp.1
            obtain ⟨y, hy⟩ : ∃ y, y = s.nl[xk].st := ⟨_, rfl⟩
            rw [← hy] at c0
            clear hy hp hr
            rw [hA] at q6'
            clear hA
            have hLA' := hLA
            subst hLA'
            have j0 : (0 : Int) ≤ (j : Int) := by omega
            have j1 : (j : Int) < (ln : Int) := by omega
            have x0 : (0 : Int) ≤ (xk : Int) := by omega
            have x1 : (xk : Int) < (s.nl.length : Int) := by omega
            have hl1 : m + 1 ≤ maxLen := by simp only [maxLen]; omega
            have hl2 : (m + 1) * 8 ≤ 140737488355328 := by omega
            have hba : base2 ≤ (wr.drew.alloc (.cells #[.int .i64 (xk : Int)] 3)).heap.size := by have h1 := hc.size; have h2 := HB2.out; simp; omega
            go_upto_region 13 with fail
            go_cut [51] from 36 to 58 (fun v w' => (∃ b : Bool, v = .bool b) ∧ Chg (fun _ => False) wr w')
            case first =>
              go_quiet (fail)
              go_wp2_with fail
              go_meet
              exact ⟨⟨_, rfl⟩, (Chg.refl _ _).drewN _⟩
            case rest =>
              obtain ⟨⟨v, rfl⟩, hc3⟩ := hcut
              have ho3 := hc3.own ho (fun _ _ h => h)
              have hq3 := hc3.cell_some hq5 (fun h => h)
              have hcX := hc.trans hc3 (fun x hx => hx.elim)
              have hba : base2 ≤ (wc.alloc (.cells #[.int .i64 (xk : Int)] 3)).heap.size := by have h1 := hcX.size; have h2 := HB2.out; simp; omega
              clear c0 q6' hq5
              cases v
              · go_wp2_with fail
                go_roundw
                case rel => exact ⟨j + 1, m, O, oc, ol, by omega, by omega, by go_num, rfl, HOL.out, HOB.out, ho3, hcX⟩
                case measure => simp [intOf]; omega
              · go_wp2_with (at_builtin; refine wpList_append_rd _ rfl (.tmp 52) (.tmp 57) 81 rfl base2 3 i1 _ 1 8 Tryz.underlying81 ki kz0 kz1 kz2 rfl (by decide) O m oc (ol.map (Value.int .i64)) rfl (World.ownsRow.alloc ho3 _) (some ⟨wc.heap.size, 0, none⟩) 1 1 ([(xk : Int)].map (Value.int .i64)) rfl rfl (Rd.newRow wc _ _ _ rfl) (ints_one _) hl1 hl2 hba ?_; intro A7 c7 w7 hown7 hg7 hb7; have hc7 : Chg (In O) wc w7 := ((Chg.refl _ wc).alloc _).trans hg7 (fun x hx => .inl hx))
                go_roundw
                case rel => exact ⟨j + 1, m + 1, A7, c7, ol ++ [(xk : Int)], by omega, by omega, by go_num, rfl, by rw [List.length_append, HOL.out]; rfl, (fun x hx => by
                  rcases List.mem_append.1 hx with hx | hx
                  · exact HOB.out x hx
                  · simp only [List.mem_singleton] at hx; subst hx; omega), by rw [List.map_append]; exact hown7, hcX.trans hc7 (fun x hx => .inr (by have h1 := (own_lt ho hx).1; have h2 := HB2.out; omega))⟩
                case measure => simp [intOf]; omega
          · have j1 : ¬ (j : Int) < (ln : Int) := by omega
            go_wp2_with fail
            go_ret
            exact ⟨O, m, oc, ol, rfl, HOL.out, by have := HDN.out; omega, HOB.out, own_mono ho hb2, hcC.trans hc (fun x hx => hx.elim)⟩
end Go.Proofs.YtngfimjbgopgjaaGreatDoor
