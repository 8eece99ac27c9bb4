/- EvReadAllA, EvSub, in one text (merge.py). -/
import Derived.Test.YtngfimjbgopgjaaGreatDoorEvOwnAll
import Derived.Test.YtngfimjbgopgjaaGreatDoorEvList
/- EvLayAll, EvReadAll, in one text (merge.py). -/
/- Contract of event.LayAll at any events (gen_evall.py). -/
namespace Go.Proofs.YtngfimjbgopgjaaGreatDoor
open Go.RowKit
set_option linter.unusedVariables false

set_option maxHeartbeats 8000000 in
set_option maxRecDepth 20000 in
theorem layAll_any (A : Option Addr) (c : Nat) (l : List EvF) (w : World) (h : RdEv w A l) (hl : l.length ≤ 1048576) :
    Calls Tryz.prog 7 #[.slice A l.length c] w (LaidAll w l) := by
  obtain ⟨n, hn⟩ : ∃ n, n = l.length := ⟨_, rfl⟩
  have HR := Lib.hid h
  have HN := Lib.hid hn
  rw [← hn] at hl ⊢
  clear h hn
  by_cases h200 : 200 < n
  · have h1 : (200 : Int) < (n : Int) := by omega
    have HNO := Lib.hid (show ¬ GoodF l from fun hg => by have := hg.1; rw [← HN.out] at this; omega)
    clear h200
    go_enter Tryz.func7, Tryz.ntmps7
    go_wp2_with fail
    go_ret2
    exact LaidAll.no HNO.out (Chg.refl _ _)
  have h1 : ¬ (200 : Int) < (n : Int) := by omega
  go_enter Tryz.func7, Tryz.ntmps7
  go_wp2_with (first
    | (go_at_call 20; (with_reducible refine (newW_any w).mono ?_); rintro e w2 ⟨p, rfl, hp2, h2, hc2⟩)
    | (go_at_call 21; (with_reducible refine (u16_any p none 0 [] n w2 h2 (by simp)).mono ?_); rintro e w3 ⟨rfl, hw3⟩; obtain ⟨A3, c3, h3, hc3, hA3⟩ := hw3.own hc2 hp2 (fun x hx => by cases hx)))
  rw [List.nil_append] at h3
  clear hw3 h2 hc2
  go_loopw [19] (fun i wr => ∃ k : Nat, k ≤ n ∧ i = .int .i64 k ∧ (∃ (B : Option Addr) (d : Nat), WAt 88 wr p B d (be (IntKind.u64.wrap n) 2 ++ manyB ((l.take k).map EvF.v)) ∧ ∀ x, blk B = some x → w.heap.size ≤ x) ∧ Chg (fun _ => False) w wr ∧ ∀ j (hj : j < l.length), j < k → l[j].right = true) (fun i _ => n - (intOf i).toNat)
  case atStart => exact ⟨0, by omega, rfl, ⟨A3, c3, by simpa [manyB] using h3, hA3⟩, hc3, fun j _ hj => absurd hj (by omega)⟩
  case round =>
    clear h3 hc3 hA3
    obtain ⟨k, hk, rfl, ⟨B, d, hW, hB⟩, hc, hall⟩ := hrel
    have HALL := Lib.hid hall
    clear hall
    by_cases hkn : k < n
    · have hkl : k < l.length := by rw [← HN.out]; exact hkn
      have hre := HR.out.still hc
      obtain ⟨b, o, hA, _⟩ := hre.rd.at_ (k := 0) (by rw [eoC_len]; omega)
      obtain ⟨p0, p1, p2, p3, p4, p5, p6, p7, p8⟩ := eoC_get l k hkl
      have q0 := hre.rd.cells hA _ _ p0
      have q1 := hre.rd.cells hA _ _ p1
      have q2 := hre.rd.cells hA _ _ p2
      have q3 := hre.rd.cells hA _ _ p3
      have q4 := hre.rd.cells hA _ _ p4
      have q5 := hre.rd.cells hA _ _ p5
      have q6 := hre.rd.cells hA _ _ p6
      have q7 := hre.rd.cells hA _ _ p7
      have q8 := hre.rd.cells hA _ _ p8
      rw [← Nat.add_assoc] at q1 q2 q3 q4 q5 q6 q7 q8
      clear p0 p1 p2 p3 p4 p5 p6 p7 p8
      have hx := hre.ev l[k] (List.getElem_mem _)
      have hsn := Lib.hid (manyB_snoc l k hkl)
      have hlen : (manyB ((l.take k).map EvF.v)).length ≤ k * 1002 := by
        have h2 := manyB_len (l := (l.take k).map EvF.v) (fun v hv => by
          obtain ⟨g, hg, rfl⟩ := List.mem_map.1 hv
          obtain ⟨j, hj, rfl⟩ := List.mem_iff_getElem.1 hg
          rw [List.length_take] at hj
          rw [EvF.right_v, List.getElem_take]
          exact HALL.out j (by omega) (by omega))
        rw [List.length_map, List.length_take] at h2
        have h4 : min k l.length = k := by omega
        rwa [h4] at h2
      have hnext : l[k].right = true → ∀ j (hj : j < l.length), j < k + 1 → l[j].right = true := fun hr j hj hjk => by
        by_cases e : j = k
        · subst e; exact hr
        · exact HALL.out j hj (by omega)
      have hno : ¬ l[k].right = true → ¬ GoodF l := fun hr hg => hr (hg.2 _ (List.getElem_mem _))
      obtain ⟨f, hf⟩ : ∃ f, f = l[k] := ⟨_, rfl⟩
      rw [← hf] at q0 q1 q2 q3 q4 q5 q6 q7 q8 hx hno hsn hnext
      obtain ⟨bs, hbs⟩ : ∃ bs, bs = be (IntKind.u64.wrap n) 2 ++ manyB ((l.take k).map EvF.v) := ⟨_, rfl⟩
      have HBS := Lib.hid hbs
      have hbl : bs.length ≤ 1000000 := by rw [hbs, List.length_append, be_length]; omega
      rw [← hbs] at hW
      have HNEXT := Lib.hid hnext
      clear hf hre hbs hlen hnext
      subst hA
      have j0 : (0 : Int) ≤ (k : Int) := by omega
      have j1 : (k : Int) < (n : Int) := by omega
      obtain ⟨w2, hw2⟩ : ∃ w2, w2 = wr.alloc (.cells #[.int .i64 f.id, .int .i64 f.ver, .int .i64 f.tm, .int .i64 f.ty, .int .i64 f.node, .int .i64 f.m, .string f.nm, .slice f.A f.bs.length f.c, .slice f.D f.dl.length f.dc] 32) := ⟨_, rfl⟩
      have hc2 : Chg (fun _ => False) wr w2 := by rw [hw2]; exact (Chg.refl _ _).alloc _
      have bx : BoxAt w2 wr.heap.size 32 #[.int .i64 f.id, .int .i64 f.ver, .int .i64 f.tm, .int .i64 f.ty, .int .i64 f.node, .int .i64 f.m, .string f.nm, .slice f.A f.bs.length f.c, .slice f.D f.dl.length f.dc] := by rw [hw2]; exact BoxAt.new wr _ _
      have HCL := Lib.hid (lay_s f w2 (hx.still hc2))
      have hW2 := hW.keep hc2 (fun h => h) (fun _ _ h => h)
      have hBl : ∀ y, wFoot p B y → y < w2.heap.size := hW2.foot_lt
      go_upto_region 8 with fail
      rw [← hw2]
      clear hw2 q0 q1 q2 q3 q4 q5 q6 q7 q8 hx
      obtain ⟨gx, hgx⟩ : ∃ gx, gx = wr.heap.size := ⟨_, rfl⟩
      rw [← hgx] at bx ⊢
      clear hgx
      have r0 := bx.cell 0 rfl
      have r1 := bx.cell 1 rfl
      have r2 := bx.cell 2 rfl
      have r3 := bx.cell 3 rfl
      have r4 := bx.cell 4 rfl
      have r5 := bx.cell 5 rfl
      have r6 := bx.cell 6 rfl
      have r7 := bx.cell 7 rfl
      have r8 := bx.cell 8 rfl
      have hcr := hc.trans hc2 (fun x hx => hx.elim)
      by_cases hr : f.right = true
      · have hcl := HCL.out.mono (R' := fun e w' => (∃ A c, e = .returned (.tuple #[.slice A f.lay.length c, .int .i64 0]) ∧ w'.ownsRow w2.heap.size 5 1 (.slice A f.lay.length c) f.lay.length (f.lay.map (Value.int .u8))) ∧ Chg (fun _ => False) w2 w') (fun e w' h => by
          rcases h with ⟨h | h, hc⟩
          · exact ⟨h.2, hc⟩
          · rw [hr] at h; cases h.1)
        have hfl := f.lay_len hr
        have HGO := Lib.hid (HNEXT.out hr)
        obtain ⟨ys, hys⟩ : ∃ ys, ys = f.lay := ⟨_, rfl⟩
        rw [← hys] at hcl hfl hsn
        clear hys hr
        go_wp2_with (first
          | (go_at_call 22; (with_reducible refine hcl.mono ?_); rintro e w4 ⟨⟨A4, c4, rfl, ho4⟩, hc4⟩; have hW4 := hW2.keep hc4 (fun h => h) (fun _ _ h => h); have hcr4 := hcr.trans hc4 (fun x hx => hx.elim); have hoff : ys ≠ [] → Off (wFoot p B) A4 := fun _ x hx hs => by have h2 := (own_lt ho4 hx).1; have h3 := hBl x hs; omega)
          | (go_at_call 23; (with_reducible refine (short_yes p B d bs A4 c4 ys.length ys w4 hW4 (Rd.of_own ho4) hoff rfl (by omega) (by omega)).mono ?_); rintro e w5 ⟨rfl, hw5⟩; obtain ⟨B5, d5, h5, hc5, hB5⟩ := hw5.own hcr4 hp2 hB))
        go_roundw
        case rel => exact ⟨k + 1, by omega, by go_num, ⟨B5, d5, by rw [hsn.out, ← List.append_assoc, ← HBS.out]; exact h5, hB5⟩, hc5, HGO.out⟩
        case measure => simp [intOf]; omega
      · have hcl := HCL.out.mono (R' := fun e w' => e = .returned (.tuple #[.slice none 0 0, .int .i64 1]) ∧ Chg (fun _ => False) w2 w') (fun e w' h => by
          rcases h with ⟨h | h, hc⟩
          · exact absurd h.1 hr
          · exact ⟨h.2, hc⟩)
        have HNO := Lib.hid (hno hr)
        clear hno hr
        go_wp2_with (go_at_call 22; (with_reducible refine hcl.mono ?_); rintro e w4 ⟨rfl, hc4⟩)
        go_ret2
        exact LaidAll.no HNO.out (hcr.trans hc4 (fun x hx => hx.elim))
    · have hke : k = l.length := by rw [← HN.out]; omega
      have hgood : GoodF l := ⟨by rw [← HN.out]; omega, fun f hf => by
        obtain ⟨j, hj, rfl⟩ := List.mem_iff_getElem.1 hf
        exact HALL.out j hj (by omega)⟩
      have HGOOD := Lib.hid hgood
      have hlb := laidF_len hgood
      have hW2 : WAt 88 wr p B d (laidF l) := by
        rw [hke, List.take_length] at hW
        unfold laidF allB
        rw [List.length_map, ← HN.out]
        exact hW
      obtain ⟨zs, hzs⟩ : ∃ zs, zs = laidF l := ⟨_, rfl⟩
      have HZ := Lib.hid hzs
      rw [← hzs] at hlb hW2
      have j1 : ¬ (k : Int) < (n : Int) := by omega
      clear hke hgood hW hzs
      go_wp2_with (go_at_call 24; (with_reducible refine (bytes_any p B d zs wr hW2 (by omega)).mono ?_); rintro e w6 ⟨A6, c6, rfl, ho6, hc6⟩)
      go_ret2
      refine ⟨.inl ⟨HGOOD.out, ?_⟩, hc.trans hc6 (fun x hx => hx.elim)⟩
      rw [← HZ.out]
      exact ⟨A6, c6, rfl, own_cap2 ho6, Rd.of_own ho6, fun x hx => ⟨Nat.le_trans hc.size (own_lt ho6 hx).1, (own_lt ho6 hx).2⟩⟩
end Go.Proofs.YtngfimjbgopgjaaGreatDoor

/- Contract of event.ReadAll at any bytes (gen_evall.py). -/
namespace Go.Proofs.YtngfimjbgopgjaaGreatDoor
open Go.RowKit
set_option linter.unusedVariables false

set_option maxHeartbeats 8000000 in
set_option maxRecDepth 20000 in
theorem readAll_any (B : Option Addr) (n d : Nat) (xs : List Int) (w : World) (h : Rd w B (xs.map (Value.int .u8))) (hn : xs.length = n) (hn2 : n ≤ 140737488355328) (hby : ∀ x ∈ xs, 0 ≤ x ∧ x ≤ 255) :
    Calls Tryz.prog 13 #[.slice B n d] w (ReadAllGave w xs) := by
  obtain ⟨i0, hi, hz0, hz1, hz2⟩ := info_parts evInfo
  obtain ⟨⟨nn, l1, r1⟩, x1⟩ : ∃ r, numR false xs 2 = r := ⟨_, rfl⟩
  have hbd := numR2_bd (lack := false) hby
  rw [x1] at hbd
  simp only at hbd
  obtain ⟨N, rfl⟩ : ∃ N : Nat, nn = (N : Int) := ⟨nn.toNat, by omega⟩
  have hN2 : N ≤ 65535 := by omega
  have HST := Lib.hid (AllHyp.start x1)
  have X1 := Lib.hid x1
  have HB := Lib.hid h
  have HN := Lib.hid hn
  clear x1 h hn hbd
  go_enter Tryz.func13, Tryz.ntmps13
  go_wp2_with (first
    | (go_at_call 33; (with_reducible refine (newR_any B d n xs w HB.out HN.out hn2 hby).mono ?_); rintro e w1 ⟨p, A1, c1, rfl, r1', hA1, hp, hc1⟩)
    | (go_at_call 34; (with_reducible refine (gu16_any p A1 c1 false xs w1 r1').mono ?_); rw [X1.out]; rintro e w2 ⟨rfl, A2, c2, r2, hb2, hd2⟩))
  have hc2 : Chg (fun _ => False) w w2 := hc1.trans hd2 (fun x hx => .inr (by rw [hx]; exact hp))
  clear r1' hc1 hd2 hA1 hb2
  go_loopw [5, 6] (fun a i wr => ∃ (k : Nat) (A : Option Addr) (c : Nat) (l : List EvF) (lk : Bool) (ys : List Int) (Ar : Option Addr) (cr : Nat), k ≤ N ∧ a = .slice A k c ∧ i = .int .i64 ((N : Int) - k) ∧ l.length = k ∧ OwnL w wr A c l ∧ (∀ f ∈ l, EvOff (· = p) f) ∧ RAt 104 wr p Ar cr lk ys ∧ (∀ x, In A x → x ≠ p ∧ blk Ar ≠ some x) ∧ AllHyp xs N k l lk ys) (fun _ i _ => (intOf i).toNat)
  case atStart => exact ⟨0, none, 0, [], l1, r1, A2, c2, by omega, rfl, by simp, rfl, ⟨World.ownsRow_nil _ _ _ _, (fun f hf => by cases hf), (fun f hf => by cases hf), hc2⟩, (fun f hf => by cases hf), r2, (fun x hx => by cases hx), HST.out⟩
  case round =>
    clear r2 hc2
    obtain ⟨k, A, c, l, lk, ys, Ar, cr, hk, rfl, rfl, hl, hL, hY, hr, hap, hH⟩ := hrel
    have HLK := Lib.hid hl
    have HL := Lib.hid hL
    have HY := Lib.hid hY
    have HH := Lib.hid hH
    clear hl hL hY hH
    go_upto_region 4 with fail
    go_cut [21] from 15 to 20 (fun r w' => (∃ b' : Bool, r = .bool b' ∧ (b' = true ↔ (k < N ∧ lk = false))) ∧ w' = wr)
    case first =>
      by_cases hkn : k < N
      · have n1 : (0 : Int) < (N : Int) - (k : Int) := by omega
        cases lk
        · go_wp2_with (go_at_call 35; (with_reducible refine (lack_any p Ar cr false ys _ hr).mono ?_); rintro e w' ⟨rfl, rfl⟩)
          go_meet
          exact ⟨⟨_, rfl, by simp [hkn]⟩, rfl⟩
        · go_wp2_with (go_at_call 35; (with_reducible refine (lack_any p Ar cr true ys _ hr).mono ?_); rintro e w' ⟨rfl, rfl⟩)
          go_meet
          exact ⟨⟨_, rfl, by simp⟩, rfl⟩
      · have n1 : ¬ (0 : Int) < (N : Int) - (k : Int) := by omega
        go_wp2_with fail
        go_meet
        exact ⟨⟨_, rfl, by simp [hkn]⟩, rfl⟩
    obtain ⟨⟨b', rfl, hb'⟩, rfl⟩ := hcut
    cases b'
    rotate_left
    · obtain ⟨hkn, rfl⟩ := hb'.1 rfl
      clear hb'
      obtain ⟨⟨zs, lk', ys'⟩, hs⟩ : ∃ r, shortR false ys = r := ⟨_, rfl⟩
      have hzb := shortR_bytes (lack := false) hr.byt
      rw [hs] at hzb
      have hzl := shortR_le (lack := false) (xs := ys)
      rw [hs] at hzl
      simp only at hzb hzl
      have hyl := hr.len
      have HS := Lib.hid hs
      have hpl := hr.lt
      clear hs
      by_cases hv : ∃ v : EvV, v.right = true ∧ (∀ z ∈ v.nb, 0 ≤ z ∧ z ≤ 255) ∧ v.lay = zs
      rotate_left
      · have HNV := Lib.hid (HH.out.none hkn HS.out hv)
        have HV := Lib.hid hv
        clear hv
        go_wp2_with (first
          | (go_at_call 30; (with_reducible refine hrd.mono ?_); rintro e w4 hE; obtain ⟨rfl, hc4⟩ := hE.no HV.out)
          | (go_at_call 36; (with_reducible refine (gshort_any p Ar cr false ys wc hr).mono ?_); rw [HS.out]; rintro e w3 ⟨B3, d3, rfl, hcap, hB3, hst⟩; obtain ⟨A3, c3, r3, hb3, hd3⟩ := hst; have hrd := readE_any B3 zs.length d3 zs w3 hB3.1 rfl (by omega) hzb))
        go_ret2
        have hcz : Chg (fun _ => False) w w3 := HL.out.chg.trans hd3 (fun x hx => .inr (by rw [hx]; exact hp))
        exact ⟨.inr ⟨rfl, HNV.out⟩, hcz.trans (hc4.alloc _) (fun x hx => hx.elim)⟩
      have HV := Lib.hid hv
      clear hv
      go_upto_region 7 with (first
        | (go_at_call 30; (with_reducible refine hrd.mono ?_); rintro e w4 hE; obtain ⟨⟨⟨id, ver, tm, ty, node, m, nm, A7, c7, bs, D7, dc, dl⟩, he, hz, hzr, hzy, hzo⟩, hc4⟩ := hE.yes HV.out; simp only [EvF.val, EvF.row] at he; subst he; have HZ := Lib.hid hz; have HZR := Lib.hid hzr; have HZY := Lib.hid hzy; have HZO := Lib.hid hzo; clear hz hzr hzy hzo)
        | (go_at_call 36; (with_reducible refine (gshort_any p Ar cr false ys wc hr).mono ?_); rw [HS.out]; rintro e w3 ⟨B3, d3, rfl, hcap, hB3, hst⟩; obtain ⟨A3, c3, r3, hb3, hd3⟩ := hst; have hrd := readE_any B3 zs.length d3 zs w3 hB3.1 rfl (by omega) hzb))
      clear hrd
      obtain ⟨w5, hw5⟩ : ∃ w5, w5 = w4.alloc (.cells #[.int .i64 id, .int .i64 ver, .int .i64 tm, .int .i64 ty, .int .i64 node, .int .i64 m, .string nm, .slice A7 bs.length c7, .slice D7 dl.length dc] 32) := ⟨_, rfl⟩
      have bx : BoxAt w5 w4.heap.size 32 #[.int .i64 id, .int .i64 ver, .int .i64 tm, .int .i64 ty, .int .i64 node, .int .i64 m, .string nm, .slice A7 bs.length c7, .slice D7 dl.length dc] := by rw [hw5]; exact BoxAt.new w4 _ _
      have hc5 : Chg (fun _ => False) w3 w5 := by rw [hw5]; exact hc4.alloc _
      have hz5 : EvS w5 ⟨id, ver, tm, ty, node, m, nm, A7, c7, bs, D7, dc, dl⟩ := HZ.out.still (by rw [hw5]; exact (Chg.refl _ _).alloc _)
      obtain ⟨gx, hgx⟩ : ∃ gx, gx = w4.heap.size := ⟨_, rfl⟩
      rw [← hgx] at bx ⊢
      rw [← hw5]
      clear hw5 hgx
      have hd5 : Chg (· = p) wc w5 := hd3.trans hc5 (fun x hx => hx.elim)
      have hL5 := HL.out.past hd5 (fun x hx e => (hap x hx).1 e) HY.out (fun x hx => by rw [hx]; exact hp)
      have r5 := r3.keep hc5 (fun h => h) (fun _ _ h => h)
      have hown5 := hL5.own
      rw [HLK.out] at hown5
      have HZ5 := Lib.hid hz5
      have HL5 := Lib.hid hL5
      have hp3 : p < w3.heap.size := r3.lt
      have hl1 : k + 1 ≤ maxLen := by simp only [maxLen]; omega
      have hl2 : (k + 1) * 112 ≤ 140737488355328 := by omega
      have hbase : w.heap.size ≤ (w5.alloc (.cells #[.int .i64 id, .int .i64 ver, .int .i64 tm, .int .i64 ty, .int .i64 node, .int .i64 m, .string nm, .slice A7 bs.length c7, .slice D7 dl.length dc] 32)).heap.size := (hL5.chg.alloc _).size
      have s0 := bx.cell 0 rfl
      have s1 := bx.cell 1 rfl
      have s2 := bx.cell 2 rfl
      have s3 := bx.cell 3 rfl
      have s4 := bx.cell 4 rfl
      have s5 := bx.cell 5 rfl
      have s6 := bx.cell 6 rfl
      have s7 := bx.cell 7 rfl
      have s8 := bx.cell 8 rfl
      clear hz5 hL5
      go_wp2_with (at_builtin; refine wpList_append_rd _ rfl (.tmp 32) (.tmp 34) 27 rfl w.heap.size 32 i0 _ 9 112 Tryz.underlying27 hi hz0 hz1 hz2 rfl (by decide) A k c (eoC l) rfl (World.ownsRow.alloc hown5 _) (some ⟨w5.heap.size, 0, none⟩) 1 1 (eoC [⟨id, ver, tm, ty, node, m, nm, A7, c7, bs, D7, dc, dl⟩]) rfl rfl (Rd.newRow w5 _ _ _ rfl) (eoC_one _) hl1 hl2 hbase ?_; intro A8 c8 w8 hown8 hg8 hb8)
      clear s0 s1 s2 s3 s4 s5 s6 s7 s8
      have hca := (Chg.refl (fun _ => False) w5).alloc (.cells #[.int .i64 id, .int .i64 ver, .int .i64 tm, .int .i64 ty, .int .i64 node, .int .i64 m, .string nm, .slice A7 bs.length c7, .slice D7 dl.length dc] 32)
      have hL6 := HL5.out.still hca
      have hz6 := HZ5.out.still hca
      have r6 := r5.keep hca (fun h => h) (fun _ _ h => h)
      have hsz := hca.size
      have hbr : ∀ y, blk A3 = some y → blk Ar = some y := fun y hy => by
        rcases hb3 with e | e
        · rw [← e]; exact hy
        · rw [e] at hy; cases hy
      have hA8 : ∀ x, In A8 x → In A x ∨ w5.heap.size ≤ x := fun x hx => by
        rcases hb8 with e | e
        · exact .inl (show blk A = some x by rw [← e]; exact hx)
        · have h1 : blk A8 = some x := hx
          rw [e] at h1
          injection h1 with h1
          exact .inr (by omega)
      have hz3 : w3.heap.size ≤ w5.heap.size := hc5.size
      have r8 : RAt 104 w8 p A3 c3 lk' ys' := r6.keep hg8 (fun hi => (hap p hi).1 rfl) (fun y hy hi => (hap y hi).2 (hbr y hy))
      have hL8 : OwnL w w8 A8 c8 (l ++ [⟨id, ver, tm, ty, node, m, nm, A7, c7, bs, D7, dc, dl⟩]) := by
        refine hL6.snoc hz6 (HZO.out.mono (fun x hx => ?_)) (by rw [HLK.out]; exact hown8) hg8 hb8
        have h1 := (own_lt HL.out.own hx).2
        have h2 := hd3.size
        omega
      have hY8 : ∀ f ∈ l ++ [(⟨id, ver, tm, ty, node, m, nm, A7, c7, bs, D7, dc, dl⟩ : EvF)], EvOff (· = p) f := fun f hf => by
        rcases List.mem_append.1 hf with hf | hf
        · exact HY.out f hf
        · rw [List.mem_singleton.1 hf]
          exact HZO.out.mono (fun x hx => by rw [hx]; exact hp3)
      have hap8 : ∀ x, In A8 x → x ≠ p ∧ blk A3 ≠ some x := fun x hx => by
        rcases hA8 x hx with h1 | h1
        · exact ⟨(hap x h1).1, fun h2 => (hap x h1).2 (hbr x h2)⟩
        · exact ⟨fun e => by omega, fun h2 => by have := r5.old x h2; omega⟩
      have hH8 : AllHyp xs N (k + 1) (l ++ [⟨id, ver, tm, ty, node, m, nm, A7, c7, bs, D7, dc, dl⟩]) lk' ys' := HH.out.next hkn HS.out HZR.out HZY.out
      have hk8 : (l ++ [(⟨id, ver, tm, ty, node, m, nm, A7, c7, bs, D7, dc, dl⟩ : EvF)]).length = k + 1 := by rw [List.length_append, HLK.out]; rfl
      obtain ⟨l8, hl8⟩ : ∃ l8, l8 = l ++ [(⟨id, ver, tm, ty, node, m, nm, A7, c7, bs, D7, dc, dl⟩ : EvF)] := ⟨_, rfl⟩
      rw [← hl8] at hL8 hY8 hH8 hk8
      clear hl8 hown8
      go_roundw
      case rel =>
        exact ⟨k + 1, A8, c8, l8, lk', ys', A3, c3, by omega, rfl, by go_num, hk8, hL8, hY8, r8, hap8, hH8⟩
      case measure => simp [intOf]; omega
    · have hno : ¬ (k < N ∧ lk = false) := fun e => Bool.noConfusion (hb'.2 e)
      have hla := layAll_any A c l wc HL.out.rd (by rw [HLK.out]; omega)
      rw [HLK.out] at hla
      have HLA := Lib.hid hla
      have HNO := Lib.hid hno
      clear hb' hla hno
      by_cases hb : GoodF l ∧ laidF l = xs
      · obtain ⟨hg, heq⟩ := hb
        have hlb := laidF_len hg
        have hcl := HLA.out.mono (fun e w' h => h.good hg)
        have HG := Lib.hid hg
        have HEQ := Lib.hid heq
        obtain ⟨zs, hzs⟩ : ∃ zs, zs = laidF l := ⟨_, rfl⟩
        rw [← hzs] at hlb hcl heq
        have HZS := Lib.hid heq
        clear hg heq hzs
        go_wp2_with (first
          | (go_at_call 7; (with_reducible refine hcl.mono ?_); rintro e w6 ⟨⟨A6, c6, rfl, _, hrd6, _⟩, hc6⟩)
          | (go_at_call 37; go_must (refine (equalB_short A6 B zs.length n c6 d zs xs w6 hrd6 ((HB.out.keep HL.out.chg (fun _ _ h => h)).keep hc6 (fun _ _ h => h)) rfl HN.out (by omega)).mono ?_; rintro e w7 ⟨rfl, hc7⟩; rw [decide_eq_true HZS.out])))
        go_ret2
        have hcz := hc6.trans hc7 (fun x hx => hx.elim)
        exact ⟨.inl ⟨A, c, l, by rw [HLK.out]; rfl, (HL.out.still hcz).rd, HG.out, HEQ.out⟩, HL.out.chg.trans hcz (fun x hx => hx.elim)⟩
      · have HBAD := Lib.hid (HH.out.bad HNO.out hb)
        by_cases hg : GoodF l
        · have heq : ¬ laidF l = xs := fun e => hb ⟨hg, e⟩
          have hlb := laidF_len hg
          have hcl := HLA.out.mono (fun e w' h => h.good hg)
          obtain ⟨zs, hzs⟩ : ∃ zs, zs = laidF l := ⟨_, rfl⟩
          rw [← hzs] at hlb hcl heq
          have HZS := Lib.hid heq
          clear hg heq hzs hb
          go_wp2_with (first
            | (go_at_call 7; (with_reducible refine hcl.mono ?_); rintro e w6 ⟨⟨A6, c6, rfl, _, hrd6, _⟩, hc6⟩)
            | (go_at_call 37; go_must (refine (equalB_short A6 B zs.length n c6 d zs xs w6 hrd6 ((HB.out.keep HL.out.chg (fun _ _ h => h)).keep hc6 (fun _ _ h => h)) rfl HN.out (by omega)).mono ?_; rintro e w7 ⟨rfl, hc7⟩; rw [decide_eq_false HZS.out])))
          go_ret2
          exact ⟨.inr ⟨rfl, HBAD.out⟩, (HL.out.chg.trans hc6 (fun x hx => hx.elim)).trans hc7 (fun x hx => hx.elim)⟩
        · have hcl := HLA.out.mono (fun e w' h => h.bad hg)
          clear hg hb
          go_wp2_with (go_at_call 7; (with_reducible refine hcl.mono ?_); rintro e w6 ⟨rfl, hc6⟩)
          go_ret2
          exact ⟨.inr ⟨rfl, HBAD.out⟩, HL.out.chg.trans hc6 (fun x hx => hx.elim)⟩
end Go.Proofs.YtngfimjbgopgjaaGreatDoor

/- Parts of a row of events, one of them changed; Line at a told length. -/
namespace Go.Proofs.YtngfimjbgopgjaaGreatDoor
open Go.RowKit
set_option linter.unusedVariables false

theorem tells_so {P : Prop} {w w' : World} {e : Ending} (h : Tells2 P w e w') (hp : P) : e = .returned (.bool true) ∧ Chg (fun _ => False) w w' := by
  obtain ⟨⟨b, he, hb⟩, hc⟩ := h
  rw [hb.2 hp] at he
  exact ⟨he, hc⟩
theorem tells_not {P : Prop} {w w' : World} {e : Ending} (h : Tells2 P w e w') (hp : ¬ P) : e = .returned (.bool false) ∧ Chg (fun _ => False) w w' := by
  obtain ⟨⟨b, he, hb⟩, hc⟩ := h
  cases b
  · exact ⟨he, hc⟩
  · exact absurd (hb.1 rfl) hp
/-- Line of a slice that is told by its length. -/
theorem line_yes (A : Option Addr) (n c : Nat) (l : List EvF) (w : World) (h : RdEv w A l) (hn : l.length = n) (hl : n ≤ 1048576) (hL : IsLine l) :
    Calls Tryz.prog 9 #[.slice A n c] w fun e w' => e = .returned (.bool true) ∧ Chg (fun _ => False) w w' := by
  subst hn
  exact (line_any A c l w h hl).mono fun e w' h => tells_so h hL
theorem line_no (A : Option Addr) (n c : Nat) (l : List EvF) (w : World) (h : RdEv w A l) (hn : l.length = n) (hl : n ≤ 1048576) (hL : ¬ IsLine l) :
    Calls Tryz.prog 9 #[.slice A n c] w fun e w' => e = .returned (.bool false) ∧ Chg (fun _ => False) w w' := by
  subst hn
  exact (line_any A c l w h hl).mono fun e w' h => tells_not h hL
theorem own_at {w0 w : World} {A : Option Addr} {c : Nat} {l : List EvF} (h : OwnL w0 w A c l) : (A = none ∧ l = [] ∧ c = 0) ∨ ∃ g, A = some ⟨g, 0, none⟩ ∧ l.length ≤ c := by
  rcases h.own.2 with ⟨h0, h1⟩ | ⟨g9, cap9, cur9, hv9, _, _, hl9, _⟩
  · injection h0 with h2 h3 h4
    exact .inl ⟨h2, List.length_eq_zero_iff.1 h1, h4⟩
  · injection hv9 with h2 _ h9
    exact .inr ⟨g9, h2, by omega⟩
theorem eoC_take (l : List EvF) (k : Nat) : eoC (l.take k) = (eoC l).take (k * 9) := by
  induction l generalizing k with
  | nil => simp [eoC]
  | cons x l ih =>
    cases k with
    | zero => simp [eoC]
    | succ k =>
      rw [show (k + 1) * 9 = k * 9 + 1 + 1 + 1 + 1 + 1 + 1 + 1 + 1 + 1 by omega]
      simp [eoC, ih]
theorem eoC_drop (l : List EvF) (k : Nat) : eoC (l.drop k) = (eoC l).drop (k * 9) := by
  induction l generalizing k with
  | nil => simp [eoC]
  | cons x l ih =>
    cases k with
    | zero => simp [eoC]
    | succ k =>
      rw [show (k + 1) * 9 = k * 9 + 1 + 1 + 1 + 1 + 1 + 1 + 1 + 1 + 1 by omega]
      simp [eoC, ih]
theorem RdEv.cut {w : World} {b o : Nat} {l : List EvF} (h : RdEv w (some ⟨b, o, none⟩) l) (f t : Nat) : RdEv w (some ⟨b, o + f * 9, none⟩) ((l.take t).drop f) :=
  ⟨by rw [eoC_drop, eoC_take]; exact (h.rd.take (t * 9)).drop (f * 9), fun x hx => h.ev x (List.mem_of_mem_take (List.mem_of_mem_drop hx))⟩

/-- One event stored, cell by cell. -/
def putEv (w : World) (g k : Nat) (f : EvF) : World := ((((((((w.setCell ⟨g, k, none⟩ (.int .i64 f.id)).setCell ⟨g, k + 1, none⟩ (.int .i64 f.ver)).setCell ⟨g, k + 2, none⟩ (.int .i64 f.tm)).setCell ⟨g, k + 3, none⟩ (.int .i64 f.ty)).setCell ⟨g, k + 4, none⟩ (.int .i64 f.node)).setCell ⟨g, k + 5, none⟩ (.int .i64 f.m)).setCell ⟨g, k + 6, none⟩ (.string f.nm)).setCell ⟨g, k + 7, none⟩ (.slice f.A f.bs.length f.c)).setCell ⟨g, k + 8, none⟩ (.slice f.D f.dl.length f.dc)
theorem eoC_set (l : List EvF) (k : Nat) (f : EvF) (h : k < l.length) : eoC (l.set k f) = ((((((((((eoC l).set (k * 9) (.int .i64 f.id)).set (k * 9 + 1) (.int .i64 f.ver)).set (k * 9 + 2) (.int .i64 f.tm)).set (k * 9 + 3) (.int .i64 f.ty)).set (k * 9 + 4) (.int .i64 f.node)).set (k * 9 + 5) (.int .i64 f.m)).set (k * 9 + 6) (.string f.nm)).set (k * 9 + 7) (.slice f.A f.bs.length f.c)).set (k * 9 + 8) (.slice f.D f.dl.length f.dc)) := by
  induction l generalizing k with
  | nil => simp at h
  | cons x l ih =>
    cases k with
    | zero => simp [eoC]
    | succ k =>
      rw [List.set_cons_succ, eoC, ih k (by simpa using h), show (k + 1) * 9 = k * 9 + 1 + 1 + 1 + 1 + 1 + 1 + 1 + 1 + 1 by omega]
      simp [eoC]
theorem putEv_own {w : World} {base g n c : Nat} {l : List EvF} (h : w.ownsRow base 32 9 (.slice (some ⟨g, 0, none⟩) n c) n (eoC l)) (k : Nat) (hk : k < l.length) (f : EvF) :
    (putEv w g (k * 9) f).ownsRow base 32 9 (.slice (some ⟨g, 0, none⟩) n c) n (eoC (l.set k f)) := by
  rw [eoC_set l k f hk]
  exact ((((((((h.stored _ _).1.stored _ _).1.stored _ _).1.stored _ _).1.stored _ _).1.stored _ _).1.stored _ _).1.stored _ _).1.stored _ _ |>.1
theorem putEv_chg (w : World) (g k : Nat) (f : EvF) : Chg (· = g) w (putEv w g k f) := by
  unfold putEv
  have step : ∀ {v : World} (j : Nat) (u : Value), Chg (· = g) w v → Chg (· = g) w (v.setCell ⟨g, j, none⟩ u) := fun j u h => h.setCell (p := ⟨g, j, none⟩) (.inl rfl) u
  exact step _ _ (step _ _ (step _ _ (step _ _ (step _ _ (step _ _ (step _ _ (step _ _ (step _ _ (Chg.refl _ _)))))))))
theorem ReadAllGave.ok {w w' : World} {xs : List Int} {e : Ending} (h : ReadAllGave w xs e w') {vs : List EvV} (hg : Good vs) (he : allB vs = xs) :
    (∃ (A : Option Addr) (c : Nat) (l : List EvF), e = .returned (.tuple #[.slice A l.length c, .int .i64 0]) ∧ RdEv w' A l ∧ GoodF l ∧ l.map EvF.v = vs) ∧ Chg (fun _ => False) w w' := by
  obtain ⟨h1, hc⟩ := h
  rcases h1 with ⟨A, c, l, h1, h2, h3, h4⟩ | h1
  · exact ⟨⟨A, c, l, h1, h2, h3, allB_inj h3.v hg (by rw [he]; exact h4)⟩, hc⟩
  · exact absurd ⟨vs, hg, he⟩ h1.2
theorem Chain.noOut {l : List EvF} {a b : Int × Int × Int} (h : Chain a l b) (k : Nat) (h1 : 1 ≤ k) (h2 : k + 1 < l.length) : ¬ IsLine (l.take k ++ l.drop (k + 1)) := fun hL => by
  have hlen : (l.take k ++ l.drop (k + 1)).length = l.length - 1 := by rw [List.length_append, List.length_take, List.length_drop]; omega
  have h3 := (hL k (by rw [hlen]; omega) (by rw [hlen]; omega)).2 h1
  have e1 : (l.take k ++ l.drop (k + 1))[k]'(by rw [hlen]; omega) = l[k + 1] := by
    rw [List.getElem_append_right (by rw [List.length_take]; omega)]
    simp only [List.getElem_drop, List.length_take]
    congr 1
    omega
  have e2 : (l.take k ++ l.drop (k + 1))[k - 1]'(by rw [hlen]; omega) = l[k - 1] := by
    rw [List.getElem_append_left (by rw [List.length_take]; omega)]
    simp only [List.getElem_take]
  rw [e1, e2] at h3
  have h4 := (h.at (k + 1) h2).2.1
  have h5 := (h.at (k - 1) (by omega)).2.1
  omega
theorem Chain.noTurn {l : List EvF} {a b : Int × Int × Int} (h : Chain a l b) (k : Nat) (h2 : k + 1 < l.length) : ¬ IsLine ((l.set (k + 1) (l[k]'(by omega))).set k l[k + 1]) := fun hL => by
  have h3 := (hL (k + 1) (by simpa using h2) (by simpa using h2)).2 (by omega)
  have e1 : ((l.set (k + 1) (l[k]'(by omega))).set k l[k + 1])[k + 1]'(by simpa using h2) = l[k]'(by omega) := by
    rw [List.getElem_set_ne (by omega), List.getElem_set_self]
  have e2 : ((l.set (k + 1) (l[k]'(by omega))).set k l[k + 1])[k + 1 - 1]'(by simp; omega) = l[k + 1] := by
    simp
  rw [e1, e2] at h3
  have h4 := (h.at (k + 1) h2).2.1
  have h5 := (h.at k (by omega)).2.1
  omega
end Go.Proofs.YtngfimjbgopgjaaGreatDoor
