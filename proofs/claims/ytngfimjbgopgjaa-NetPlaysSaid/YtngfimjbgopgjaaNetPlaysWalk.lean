/- NetPlays: the walk of cutoverlaw22.NetPlays. -/
import Derived.Test.YtngfimjbgopgjaaOctKnown
import Derived.Test.YtngfimjbgopgjaaVer
import Derived.Test.YtngfimjbgopgjaaNSteps
import Derived.Test.YtngfimjbgopgjaaNetSame
import Derived.Test.YtngfimjbgopgjaaNetPeek2
import Derived.Deep.CutBlock
import Derived.Deep.DeepCutAuto
namespace Go.Proofs.Ytngfimjbgopgjaa.netPlays
open Go.RowKit
set_option linter.unusedVariables false

/-- A block that the net's calls do not turn. -/
def Clr (w : World) (g : Nat) (A : Option Addr) (x : Nat) : Prop := ¬ nCore g A x ∧ x < w.heap.size
/-- What holds of the net, of the list that is wanted, and of the count of lost ones, between rounds. -/
structure Inv (w0 w : World) (g : Nat) (k : Nat) (want lost : Value) : Prop where
  ex : ∃ (A : Option Addr) (c : Nat) (ps ws : List Pk) (B : Option Addr) (d : Nat) (l : Int), want = .slice B ws.length d ∧ lost = .int .i64 l ∧ 0 ≤ l ∧ l ≤ k ∧ ws.length ≤ k ∧ NetAt w g g A c ps l ∧ ws.map Pk.v = ps.map Pk.v ∧
    w.ownsRow w0.heap.size 69 3 (.slice B ws.length d) ws.length (pkC ws) ∧ (∀ q ∈ ws, Rd w0 q.A (q.bs.map (Value.int .u8)) ∧ q.bs.length ≤ 140737488351232) ∧ (∀ x, In B x → Clr w g A x) ∧ Chg (fun _ => False) w0 w

theorem size_al (w : World) (o : Obj) : (w.alloc o).heap.size = w.heap.size + 1 := Array.size_push ..
theorem own_made2 (w : World) (o : Obj) (e : TypeId) (base : Nat) (hb : base ≤ w.heap.size) : ((w.alloc o).alloc (.cells #[] e)).ownsRow base e 3 (.slice (some ⟨w.heap.size + 1, 0, none⟩) 0 0) 0 [] := by
  have h := World.ownsRow_made (base := base) (e := e) (size := 3) (w.alloc o) #[] 0 (by rw [size_al]; omega) (by decide) rfl
  rwa [size_al] at h
theorem rd_made2 (w : World) (o : Obj) (e : TypeId) (cs : Array Value) (xs : List Value) (h : cs.toList = xs) : Rd ((w.alloc o).alloc (.cells cs e)) (some ⟨w.heap.size + 1, 0, none⟩) xs := by
  have h := Rd.newRow (w.alloc o) e cs xs h
  rwa [size_al] at h
theorem Inv.turn {w0 w w1 w2 : World} {g k : Nat} {A B' : Option Addr} {c d' : Nat} {ps ps' ws' : List Pk} {l l' : Int} (hN : NetAt w g g A c ps l) (hg : w0.heap.size ≤ g) (hc : Chg (fun _ => False) w0 w) (hn : Netted w w1 g g A ps ps' l') (hr : Chg (fun _ => False) w1 w2)
    (ho : w2.ownsRow w1.heap.size 69 3 (.slice B' ws'.length d') ws'.length (pkC ws')) (hv : ws'.map Pk.v = ps'.map Pk.v) (hws : ∀ q ∈ ws', Rd w0 q.A (q.bs.map (Value.int .u8)) ∧ q.bs.length ≤ 140737488351232) (h0 : 0 ≤ l') (hl : l' ≤ k) (hk : ws'.length ≤ k) :
    Inv w0 w2 g k (.slice B' ws'.length d') (.int .i64 l') := by
  obtain ⟨A', c', h1, h2, _, _⟩ := hn
  have hc1 : Chg (fun _ => False) w0 w1 := hc.trans h2 (fun x hx => .inr (Nat.le_trans hg (hN.core_lt x hx).1))
  exact ⟨A', c', ps', ws', B', d', l', rfl, rfl, h0, hl, hk, h1.keep hr (fun x hx => hx.elim), hv, own_mono ho hc1.size, hws, fun x hx => ⟨fun hx2 => by have h3 := (own_lt ho hx).1; have h4 := (h1.core_lt x hx2).2; omega, (own_lt ho hx).2⟩, hc1.trans hr (fun x hx => hx.elim)⟩
theorem Inv.still {w0 w w2 : World} {g k : Nat} {want lost : Value} (h : Inv w0 w g k want lost) (hc : Chg (fun _ => False) w w2) : Inv w0 w2 g (k + 1) want lost := by
  obtain ⟨A, c, ps, ws, B, d, l, rfl, rfl, hl0, hlk, hwk, hN, hv, ho, hws, hcl, hc0⟩ := h.ex
  exact ⟨A, c, ps, ws, B, d, l, rfl, rfl, hl0, by omega, by omega, hN.keep hc (fun x hx => hx.elim), hv, hc.own ho (fun _ _ h => h), hws, fun x hx => ⟨(hcl x hx).1, Nat.lt_of_lt_of_le (hcl x hx).2 hc.size⟩, hc0.trans hc (fun x hx => hx.elim)⟩
theorem but_v {ps ws : List Pk} (h : ws.map Pk.v = ps.map Pk.v) (k : Nat) : (butAt ws k).map Pk.v = (butAt ps k).map Pk.v := by
  simp only [butAt, List.map_append, List.map_take, List.map_drop, h]

set_option maxHeartbeats 40000000 in
set_option maxRecDepth 20000 in
theorem walk (w : World) (a0 : Option Addr) (len0 cap0 : Nat) (h0 : NSteps w a0 len0 cap0) : Calls Try.prog 16 #[.slice a0 len0 cap0] w (SaysTrue w) := by
  obtain ⟨hlc, hcm, f, hf⟩ := h0
  have hfm : len0 ≤ 9223372036854775807 := by simp only [maxLen] at hcm; omega
  have HF := Lib.hid hf
  clear hf
  go_enter Try.func16, Try.ntmps16
  go_wp2_with (first
    | (go_at_call 67; go_must (refine (newNet_any w).mono ?_; rintro e w1 ⟨rfl, h1, hc1⟩))
    | (go_at_call 68; go_must (refine (known22_any _).mono ?_; rintro e w2 ⟨rfl, hc2⟩; have hN := h1.keep hc2 (fun x hx => hx.elim); have hcw := hc1.trans hc2 (fun x hx => hx.elim))))
  clear h1 hc1 hc2
  obtain ⟨g, hg⟩ : ∃ g, g = w.heap.size := ⟨_, rfl⟩
  have HG := Lib.hid hg
  rw [← hg] at hN
  rw [← hg]
  clear hg
  go_loopw [4, 5, 6] (fun want lost i wr => ∃ k : Nat, k ≤ len0 ∧ k ≤ 80 ∧ i = .int .i64 k ∧ Inv w wr g k want lost) (fun _ _ i _ => 80 - (intOf i).toNat)
  case atStart => exact ⟨0, by omega, by omega, rfl, ⟨none, 0, [], [], none, 0, 0, rfl, rfl, by omega, by omega, by simp, hN, rfl, World.ownsRow_nil _ _ _ _, (by intro q hq; cases hq), (by intro x hx; cases hx), hcw⟩⟩
  case round =>
    clear hN hcw
    obtain ⟨k, hk, hk8, rfl, A, c, ps, ws, B, d, l, rfl, rfl, hl0, hlk, hwk, hN, hv, ho, hws, hcl, hc⟩ := hrel
    by_cases hkn : k < len0
    · by_cases h80 : k < 80
      · have so0 : NStepOk w (f k) := by obtain ⟨_, _, _, _, _, _, _, _, h⟩ := HF.out k hkn; exact h
        obtain ⟨b, o, rfl, s0, s1, s2, s3, s4, so⟩ := (HF.out k hkn).keep hc
        obtain ⟨v, hvv⟩ : ∃ v, v = f k := ⟨_, rfl⟩
        rw [← hvv] at s0 s1 s2 s3 s4 so so0
        clear hvv
        obtain ⟨what, zk, zf, zt, vB, vn, vc, vbs⟩ := v
        simp only at s0 s1 s2 s3 s4
        have hm : 0 ≤ zk % ((ws.length : Int) + 2) ∧ zk % ((ws.length : Int) + 2) < (ws.length : Int) + 2 := ⟨Int.emod_nonneg _ (by omega), Int.emod_lt_of_pos _ (by omega)⟩
        obtain ⟨y, hy⟩ : ∃ y, y = zk % ((ws.length : Int) + 2) := ⟨_, rfl⟩
        rw [← hy] at hm
        have hP : ∀ w', Calls Try.prog 22 #[.int .i64 zk, .int .i64 ((ws.length : Int) + 2)] w' fun e w'' => e = .returned (.int .i64 y) ∧ w' = w'' := fun w' => by rw [hy]; exact pick_any _ _ w' (by omega) (by omega)
        clear hy
        have hx : 0 ≤ what % 9 ∧ what % 9 < 9 := ⟨Int.emod_nonneg _ (by omega), Int.emod_lt_of_pos _ (by omega)⟩
        obtain ⟨x, hxx⟩ : ∃ x, x = what % 9 := ⟨_, rfl⟩
        rw [← hxx] at hx
        have hQ : ∀ w', Calls Try.prog 22 #[.int .i64 what, .int .i64 9] w' fun e w'' => e = .returned (.int .i64 x) ∧ w' = w'' := fun w' => by rw [hxx]; exact pick_any _ _ w' (by omega) (by omega)
        clear hxx
        have hwl : IntKind.i64.wrap ((ws.length : Int) + 2) = (ws.length : Int) + 2 := IntWalk.i64_in _ (by omega)
        have hwy : IntKind.i64.wrap (y - 1) = y - 1 := IntWalk.i64_in _ (by omega)
        go_upto_region 11 with (go_at_call 22; (with_reducible refine (hP _).mono ?_); rintro e w' ⟨rfl, rfl⟩)
        go_cut [9] from 47 to 54 (fun v w' => ∃ inn : Bool, Hid (inn = (decide (0 ≤ y - 1) && decide (y - 1 < (ws.length : Int)))) ∧ v = .bool inn ∧ w' = wr.alloc (.cells #[.int .i64 what, .int .i64 zk, .int .i64 zf, .int .i64 zt, .slice vB vn vc] 84))
        case first =>
          go_wp2_with fail
          all_goals
            go_meet
            refine ⟨_, Lib.hid ?_, rfl, rfl⟩
            simp
            try omega
        case rest =>
          obtain ⟨inn, HI, rfl, rfl⟩ := hcut
          go_upto_block 2 with (go_at_call 22; (with_reducible refine (hQ _).mono ?_); rintro e w' ⟨rfl, rfl⟩)
          go_cut [4, 5, 7, 8, 9, 10, 11, 12, 13, 14, 15] from 26 to 183 (fun want lost _ _ _ _ _ _ _ _ _ w' => Inv w w' g (k + 1) want lost)
          case first =>
            have hI : Inv w wr g k (.slice B ws.length d) (.int .i64 l) := ⟨A, c, ps, ws, B, d, l, rfl, rfl, hl0, hlk, hwk, hN, hv, ho, hws, hcl, hc⟩
            have hg0 : w.heap.size ≤ g := by rw [HG.out]; exact Nat.le_refl _
            have hlen : ws.length = ps.length := by simpa using congrArg List.length hv
            have HL := Lib.hid hlen
            have HWS := Lib.hid hws
            have HV := Lib.hid hv
            obtain ⟨wb, hwb⟩ : ∃ wb, wb = wr.alloc (.cells #[.int .i64 what, .int .i64 zk, .int .i64 zf, .int .i64 zt, .slice vB vn vc] 84) := ⟨_, rfl⟩
            rw [← hwb]
            have hcb : Chg (fun _ => False) wr wb := by rw [hwb]; exact (Chg.refl _ _).alloc _
            have sbx : wb.heap[wr.heap.size]? = some (.cells #[.int .i64 what, .int .i64 zk, .int .i64 zf, .int .i64 zt, .slice vB vn vc] 84 (0, 0)) := by rw [hwb]; exact heap_alloc_new wr _
            have b2 : wb.cell? ⟨wr.heap.size, 2, none⟩ = some (.int .i64 zf) := cell_of_row wb _ 2 #[_, _, _, _, _] _ (0, 0) sbx
            have b3 : wb.cell? ⟨wr.heap.size, 3, none⟩ = some (.int .i64 zt) := cell_of_row wb _ 3 #[_, _, _, _, _] _ (0, 0) sbx
            have b4 : wb.cell? ⟨wr.heap.size, 4, none⟩ = some (.slice vB vn vc) := cell_of_row wb _ 4 #[_, _, _, _, _] _ (0, 0) sbx
            have hNb := hN.keep hcb (fun x hx => hx.elim)
            have hob : wb.ownsRow w.heap.size 69 3 (.slice B ws.length d) ws.length (pkC ws) := hcb.own ho (fun _ _ h => h)
            obtain ⟨gx, hgx⟩ : ∃ gx, gx = wr.heap.size := ⟨_, rfl⟩
            rw [← hgx] at sbx b2 b3 b4 ⊢
            have hgl : gx < wb.heap.size := (Array.getElem?_eq_some_iff.1 sbx).1
            clear hP hQ hlen hws hv sbx s0 s1 s2 s3 s4 hwb hgx hN ho
            have hsob := so.keep hcb
            rcases (by omega : (x = 4 ∨ x = 5 ∨ x = 6 ∨ x = 7 ∨ x = 8) ∨ (x ≠ 4 ∧ x ≠ 5 ∧ x ≠ 6 ∧ x ≠ 7 ∧ x ≠ 8)) with hxx | hxd
            · by_cases hin : 0 ≤ y - 1 ∧ y - 1 < (ws.length : Int)
              · skip
                all_goals
                  obtain ⟨kk, hkk⟩ : ∃ kk : Nat, y - 1 = (kk : Int) := ⟨(y - 1).toNat, by omega⟩
                  have hd : inn = true := by rw [HI.out]; simp; omega
                  subst hd
                  rw [hkk]
                  have hkw : kk < ws.length := by omega
                  have hkp : kk < ps.length := by have := HL.out; omega
                  have hpn : ps.length ≤ 80 := by have := HL.out; omega
                  have j0 : (0 : Int) ≤ (kk : Int) := by omega
                  have j1 : (kk : Int) < (ws.length : Int) := by omega
                  have hwk1 : IntKind.i64.wrap ((kk : Int) + 1) = (kk : Int) + 1 := IntWalk.i64_in _ (by omega)
                  have hveq : ps[kk].v = ws[kk].v := by
                    have e1 : (ps.map Pk.v)[kk]? = (ws.map Pk.v)[kk]? := by rw [HV.out]
                    rw [List.getElem?_map, List.getElem?_map, List.getElem?_eq_getElem hkp, List.getElem?_eq_getElem hkw] at e1
                    exact Option.some.inj e1
                  have e1 : ps[kk].f = ws[kk].f := congrArg (fun x => x.1) hveq
                  have e2 : ps[kk].t = ws[kk].t := congrArg (fun x => x.2.1) hveq
                  have e3 : ps[kk].bs = ws[kk].bs := congrArg (fun x => x.2.2) hveq
                  obtain ⟨hqr, hqb⟩ := HWS.out ws[kk] (List.getElem_mem _)
                  have hpb3 : ps[kk].bs.length ≤ 140737488355328 := by rw [e3]; omega
                  have htk := take_yes wb g g c A ps l hNb kk hkp (by omega) hpb3
                  have hpkk := peek_own wb g g c A ps l hNb kk hkp (by omega) hpb3
                  have hdbl := double_yes wb g g c A ps l hNb kk hkp (by omega) hpb3 (by have := hNb.lt; omega)
                  have hlos := lose_yes wb g g c A ps l hNb kk hkp (by omega) hpb3 hl0 (by omega)
                  rw [e1, e2, e3] at htk hpkk
                  rw [hveq] at hdbl
                  have hRb := Rd.of_own hob
                  obtain ⟨bB, oB, rfl, _⟩ := hRb.at_ (k := 0) (by rw [pkC_len]; omega)
                  obtain ⟨p0, p1, p2⟩ := pkC_get ws kk hkw
                  obtain ⟨q, hq⟩ : ∃ q, q = ws[kk] := ⟨_, rfl⟩
                  rw [← hq] at htk hpkk hdbl hqr hqb p0 p1 p2
                  have HQ := Lib.hid hq
                  clear hq hveq e1 e2 e3 hpb3
                  have hcells : ∀ w', Rd w' (some ⟨bB, oB, none⟩) (pkC ws) → w'.cell? ⟨bB, oB + kk * 3, none⟩ = some (.int .i64 q.f) ∧ w'.cell? ⟨bB, oB + kk * 3 + 1, none⟩ = some (.int .i64 q.t) ∧ w'.cell? ⟨bB, oB + kk * 3 + 2, none⟩ = some (.slice q.A q.bs.length q.c) := fun w' hw =>
                    ⟨hw.cells rfl _ _ p0, by rw [Nat.add_assoc]; exact hw.cells rfl _ _ p1, by rw [Nat.add_assoc]; exact hw.cells rfl _ _ p2⟩
                  clear p0 p1 p2
                  have hqA : ∀ w', Chg (fun _ => False) w w' → Rd w' q.A (q.bs.map (Value.int .u8)) := fun w' hw => hqr.keep hw (fun _ _ h => h)
                  have hcwb : Chg (fun _ => False) w wb := hc.trans hcb (fun x hx => hx.elim)
                  have hnw : ∀ {S : Nat → Prop} {a}, Chg S wb a → (∀ x, S x → nCore g A x) → Chg (fun _ => False) w a := fun h hs => hcwb.trans h (fun x hx => .inr (Nat.le_trans hg0 (hNb.core_lt x (hs x hx)).1))
                  obtain ⟨i0, hi, hz0, hz1, hz2⟩ := info_parts pkInfo
                  have hld : ws.length ≤ d := by
                    rcases hob.2 with ⟨_, h0⟩ | ⟨g9, cap9, cur9, hv9, _, _, hl9, _⟩
                    · omega
                    · injection hv9 with _ _ h9; omega
                  have hic : kk ≤ d := by omega
                  have hjc : kk + 1 ≤ d := by omega
                  have j2 : (0 : Int) ≤ (kk : Int) + 1 := by omega
                  have j3 : (kk : Int) + 1 ≤ (ws.length : Int) := by omega
                  obtain ⟨B2, hB2, hR2⟩ : ∃ B2 : Option Addr, (if d = kk + 1 then some (⟨bB, oB, none⟩ : Addr) else some ⟨bB, oB + (kk + 1) * 3, none⟩) = B2 ∧ Hid (∀ w', Rd w' (some ⟨bB, oB, none⟩) (pkC ws) → Rd w' B2 (pkC (ws.drop (kk + 1)))) := by
                    refine ⟨_, rfl, Lib.hid fun w' hw => ?_⟩
                    by_cases h : d = kk + 1
                    · rw [if_pos h, List.drop_eq_nil_of_le (by omega)]; exact Rd.nil _ _
                    · rw [if_neg h, ← pkC_drop]; exact hw.drop _
                  have hl1 : 0 + kk ≤ maxLen := by simp only [maxLen]; omega
                  have hl2 : (0 + kk) * 40 ≤ 140737488355328 := by omega
                  have hl3 : kk + (ws.length - (kk + 1)) ≤ maxLen := by simp only [maxLen]; omega
                  have hl4 : (kk + (ws.length - (kk + 1))) * 40 ≤ 140737488355328 := by omega
                  have hbl : kk + (ws.length - (kk + 1)) = (butAt ws kk).length := by rw [butAt_len hkw]; omega
                  have HBL := Lib.hid hbl
                  clear hbl
                  rcases (by omega : (x = 4 ∨ x = 5) ∨ x = 6 ∨ x = 7 ∨ x = 8) with h45 | rfl | rfl | rfl
                  · as_aux_lemma =>
                    clear hpkk hdbl hlos
                    rcases h45 with rfl | rfl
                    all_goals
                      go_wp2_with (go_at_call 71; go_must (refine htk.mono ?_; rintro e w5 ⟨A5, c5, rfl, hf5, hnt⟩))
                      have hnt2 := hnt
                      obtain ⟨A6, c6, h6, hd6, _, _⟩ := hnt2
                      have hc5 : Chg (fun _ => False) w w5 := hnw hd6 (fun x hx => hx)
                      have hB5 : Rd w5 (some ⟨bB, oB, none⟩) (pkC ws) := hRb.keep hd6 (fun x hx hs => (hcl x hx).1 hs)
                      obtain ⟨bx, hbx⟩ : ∃ bx, bx = w5.heap.size := ⟨_, rfl⟩
                      obtain ⟨w6, hw6⟩ : ∃ w6, w6 = w5.alloc (.cells #[.int .i64 q.f, .int .i64 q.t, .slice A5 q.bs.length c5] 69) := ⟨_, rfl⟩
                      have bp : BoxPk w6 bx q.f q.t (.slice A5 q.bs.length c5) := by rw [hw6, hbx]; exact BoxPk.new w5 _ _ _
                      have hd56 : Chg (fun _ => False) w5 w6 := by rw [hw6]; exact (Chg.refl _ _).alloc _
                      rw [← hw6, ← hbx]
                      clear hw6 hbx
                      have hA5 : ∀ w', Chg (fun _ => False) w6 w' → Rd w' A5 (q.bs.map (Value.int .u8)) := fun w' hw => (hf5.1.keep hd56 (fun _ _ h => h)).keep hw (fun _ _ h => h)
                      have hS : ∀ w', Chg (fun _ => False) w6 w' → (w'.cell? ⟨bx, 0, none⟩ = some (.int .i64 q.f) ∧ w'.cell? ⟨bx, 1, none⟩ = some (.int .i64 q.t) ∧ w'.cell? ⟨bx, 2, none⟩ = some (.slice A5 q.bs.length c5)) ∧ w'.cell? ⟨bB, oB + kk * 3, none⟩ = some (.int .i64 q.f) ∧ w'.cell? ⟨bB, oB + kk * 3 + 1, none⟩ = some (.int .i64 q.t) ∧ w'.cell? ⟨bB, oB + kk * 3 + 2, none⟩ = some (.slice q.A q.bs.length q.c) := fun w' hw =>
                        ⟨⟨(bp.keep hw (fun h => h)).c0, (bp.keep hw (fun h => h)).c1, (bp.keep hw (fun h => h)).c2⟩, hcells w' ((hB5.keep hd56 (fun _ _ h => h)).keep hw (fun _ _ h => h))⟩
                      have k0 : Chg (fun _ => False) w6 w6.drew := (Chg.refl _ _).drew
                      go_region_held3 (fun w' => w'.cell? ⟨bx, 0, none⟩ = some (.int .i64 q.f) ∧ w'.cell? ⟨bx, 1, none⟩ = some (.int .i64 q.t) ∧ w'.cell? ⟨bx, 2, none⟩ = some (.slice A5 q.bs.length c5) ∧ w'.cell? ⟨bB, oB + kk * 3, none⟩ = some (.int .i64 q.f) ∧ w'.cell? ⟨bB, oB + kk * 3 + 1, none⟩ = some (.int .i64 q.t) ∧ w'.cell? ⟨bB, oB + kk * 3 + 2, none⟩ = some (.slice q.A q.bs.length q.c)) (first | exact (let h := hS _ k1; ⟨h.1.1, h.1.2.1, h.1.2.2, h.2.1, h.2.2.1, h.2.2.2⟩) | exact (let h := hS _ k0; ⟨h.1.1, h.1.2.1, h.1.2.2, h.2.1, h.2.2.1, h.2.2.2⟩)) (first
                        | (go_at_call 81; go_must (refine (samePk_yes q.f q.t A5 q.A q.bs.length c5 q.bs.length q.c q.bs _ (hA5 _ k0) (hqA _ ((hc5.trans hd56 (fun x hx => hx.elim)).trans k0 (fun x hx => hx.elim))) rfl rfl).mono ?_; rintro e w7 ⟨rfl, hd⟩; have k1 := k0.trans hd (fun x hx => hx.elim); clear hd)))
                      all_goals
                        go_wp2_with fail
                        have hd7 : Chg (fun _ => False) w5 w7 := hd56.trans k1 (fun x hx => hx.elim)
                        have k7 : Chg (fun _ => False) w5 w7.drew := hd7.drew
                        have hR7 : ∀ w', Chg (fun _ => False) w5 w' → Rd w' (some ⟨bB, oB, none⟩) (pkC ws) := fun w' hw => hB5.keep hw (fun _ _ h => h)
                        go_region_held3 (fun _ => True) (trivial)
                          (first
                          | (refine step_append_rd _ (by rfl) (.tmp 104) (.tmp 108) 82 (by rfl) w5.heap.size 69 i0 _ 3 40 Try.underlying82 hi hz0 hz1 hz2 (by rfl) (by decide) A8 kk c8 (pkC (ws.take kk)) (by first | rfl | (simp only [Nat.zero_add]; rfl)) (by exact hown8) B2 (ws.length - (kk + 1)) (d - (kk + 1)) (pkC (ws.drop (kk + 1))) (by rfl) (by rw [pkC_len, List.length_drop]) (by exact hR2.out _ (hR7 _ hc8)) (pkC_one _) hl3 hl4 (by exact hc8.size) ?_; intro A9 c9 w9 hown9 hg9 hb9; have hc9 : Chg (fun _ => False) w5 w9 := hc8.trans hg9 (fun x hx => .inr (own_lt hown8 hx).1))
                          | (refine step_append_rd _ (by rfl) (.tmp 100) (.tmp 103) 82 (by rfl) w5.heap.size 69 i0 _ 3 40 Try.underlying82 hi hz0 hz1 hz2 (by rfl) (by decide) _ 0 0 [] (by rfl) (by exact World.ownsRow_made w7.drew #[] 0 k7.size (by decide) rfl) (some ⟨bB, oB, none⟩) kk d (pkC (ws.take kk)) (by rfl) (by rw [pkC_len, List.length_take]; omega) (by rw [← pkC_take]; exact (hR7 _ (k7.alloc _)).take _) (pkC_one _) hl1 hl2 (k7.alloc _).size ?_; intro A8 c8 w8 hown8 hg8 hb8; simp only [Nat.zero_add, List.nil_append] at hown8; have hc8 : Chg (fun _ => False) w5 w8 := (k7.alloc _).trans hg8 (fun x hx => .inr (by have e := Option.some.inj hx; subst e; exact k7.size)))
                          | fail)
                        go_wp2_with fail
                        go_meet
                        rw [HBL.out] at hown9 ⊢
                        rw [← pkC_app] at hown9
                        exact Inv.turn hNb hg0 hcwb hnt hc9 hown9 (but_v HV.out kk) (fun q hq => HWS.out q (butAt_sub q hq)) hl0 (by omega) (by rw [← HBL.out]; omega)
                  · as_aux_lemma =>
                    clear hpkk htk hlos
                    go_wp2_with (go_at_call 79; go_must (refine hdbl.mono ?_; rintro e w5 ⟨rfl, p, hp, hnt⟩))
                    have hnt2 := hnt
                    obtain ⟨A5, c5, h5, hd5, _, _⟩ := hnt2
                    have hB5 : Rd w5 (some ⟨bB, oB, none⟩) (pkC ws) := hRb.keep hd5 (fun x hx hs => (hcl x hx).1 hs)
                    have k0 : Chg (fun _ => False) w5 w5.drew := (Chg.refl _ _).drew
                    have hR7 : ∀ w', Chg (fun _ => False) w5 w' → Rd w' (some ⟨bB, oB, none⟩) (pkC ws) := fun w' hw => hB5.keep hw (fun _ _ h => h)
                    have hS : ∀ w', Chg (fun _ => False) w5 w' → w'.cell? ⟨bB, oB + kk * 3, none⟩ = some (.int .i64 q.f) ∧ w'.cell? ⟨bB, oB + kk * 3 + 1, none⟩ = some (.int .i64 q.t) ∧ w'.cell? ⟨bB, oB + kk * 3 + 2, none⟩ = some (.slice q.A q.bs.length q.c) := fun w' hw => hcells w' (hR7 w' hw)
                    have m1 : 0 + ws.length ≤ maxLen := by simp only [maxLen]; omega
                    have m2 : (0 + ws.length) * 40 ≤ 140737488355328 := by omega
                    have m3 : ws.length + 1 ≤ maxLen := by simp only [maxLen]; omega
                    have m4 : (ws.length + 1) * 40 ≤ 140737488355328 := by omega
                    go_region_held3 (fun w' => w'.cell? ⟨bB, oB + kk * 3, none⟩ = some (.int .i64 q.f) ∧ w'.cell? ⟨bB, oB + kk * 3 + 1, none⟩ = some (.int .i64 q.t) ∧ w'.cell? ⟨bB, oB + kk * 3 + 2, none⟩ = some (.slice q.A q.bs.length q.c)) (first | exact hS _ hc9 | exact hS _ (hc6.alloc _) | exact hS _ hc6 | exact hS _ (k0.alloc _) | exact hS _ ((k0.alloc _).alloc _) | exact hS _ k0)
                      (first
                      | (refine step_append_rd _ (by rfl) (.tmp 120) (.tmp 125) 82 (by rfl) w5.heap.size 69 i0 _ 3 40 Try.underlying82 hi hz0 hz1 hz2 (by rfl) (by decide) A6 ws.length c6 (pkC ws) (by first | rfl | (simp only [Nat.zero_add]; rfl)) (by first | exact hown6 | exact hown6.alloc _) _ 1 1 (pkC [q]) (by rfl) (by rfl) (by first | exact hR6 | exact Rd.newRow w6 _ _ _ rfl) (pkC_one _) m3 m4 (by first | exact hc6.size | exact (hc6.alloc _).size) ?_; intro A7 c7 w7 hown7 hg7 hb7; have hc9 : Chg (fun _ => False) w5 w7 := Chg.trans (by first | exact hc6 | exact hc6.alloc _) hg7 (fun x hx => .inr (own_lt hown6 hx).1))
                      | (refine step_append_rd _ (by rfl) (.tmp 118) (.tmp 119) 82 (by rfl) w5.heap.size 69 i0 _ 3 40 Try.underlying82 hi hz0 hz1 hz2 (by rfl) (by decide) _ 0 0 [] (by rfl) (by first | exact World.ownsRow_made w5.drew #[] 0 (Nat.le_refl _) (by decide) rfl) (some ⟨bB, oB, none⟩) ws.length d (pkC ws) (by rfl) (pkC_len _) (hR7 _ (k0.alloc _)) (pkC_one _) m1 m2 (k0.alloc _).size ?_; intro A6 c6 w6 hown6 hg6 hb6; simp only [Nat.zero_add, List.nil_append] at hown6; have hc6 : Chg (fun _ => False) w5 w6 := (k0.alloc _).trans hg6 (fun x hx => .inr (by have e := Option.some.inj hx; subst e; exact Nat.le_refl _)))
                      | (refine step_append_rd _ (by rfl) (.tmp 118) (.tmp 119) 82 (by rfl) w5.heap.size 69 i0 _ 3 40 Try.underlying82 hi hz0 hz1 hz2 (by rfl) (by decide) _ 0 0 [] (by rfl) (by first | exact World.ownsRow.alloc (World.ownsRow_made w5.drew #[] 0 (Nat.le_refl _) (by decide) rfl) _) (some ⟨bB, oB, none⟩) ws.length d (pkC ws) (by rfl) (pkC_len _) (hR7 _ ((k0.alloc _).alloc _)) (pkC_one _) m1 m2 ((k0.alloc _).alloc _).size ?_; intro A6 c6 w6 hown6 hg6 hb6; simp only [Nat.zero_add, List.nil_append] at hown6; have hc6 : Chg (fun _ => False) w5 w6 := ((k0.alloc _).alloc _).trans hg6 (fun x hx => .inr (by have e := Option.some.inj hx; subst e; exact Nat.le_refl _)); have hR6 := (rd_made2 w5.drew (.cells #[] 69) 69 #[.int .i64 q.f, .int .i64 q.t, .slice q.A q.bs.length q.c] (pkC [q]) rfl).keep hg6 (fun x hx hs => by have e := Option.some.inj hx; have e2 := Option.some.inj hs; have e3 : w5.drew.heap.size = w5.heap.size := rfl; simp only [] at e e2; omega))
                      | (refine step_append_rd _ (by rfl) (.tmp 118) (.tmp 119) 82 (by rfl) w5.heap.size 69 i0 _ 3 40 Try.underlying82 hi hz0 hz1 hz2 (by rfl) (by decide) _ 0 0 [] (by rfl) (by exact own_made2 w5.drew _ _ _ (Nat.le_refl _)) (some ⟨bB, oB, none⟩) ws.length d (pkC ws) (by rfl) (pkC_len _) (hR7 _ ((k0.alloc _).alloc _)) (pkC_one _) m1 m2 ((k0.alloc _).alloc _).size ?_; intro A6 c6 w6 hown6 hg6 hb6; simp only [Nat.zero_add, List.nil_append] at hown6; have hc6 : Chg (fun _ => False) w5 w6 := ((k0.alloc _).alloc _).trans hg6 (fun x hx => .inr (by have e := Option.some.inj hx; subst e; exact Nat.le_succ _)); have hR6 := ((Rd.newRow w5.drew 69 #[.int .i64 q.f, .int .i64 q.t, .slice q.A q.bs.length q.c] (pkC [q]) rfl).alloc _).keep hg6 (fun x hx hs => by have e := Option.some.inj hx; have e2 := Option.some.inj hs; have e3 : w5.drew.heap.size = w5.heap.size := rfl; simp only [] at e e2; omega))
                      | fail)
                    all_goals
                      go_wp2_with fail
                      go_meet
                      have e : ws.length + 1 = (ws ++ [q]).length := by simp
                      rw [e, ← pkC_app] at hown7
                      rw [e]
                      exact Inv.turn hNb hg0 hcwb hnt hc9 hown7 (by rw [List.map_append, List.map_append, HV.out]; simp only [List.map_cons, List.map_nil, hp]) (by
                        intro r hr
                        rcases List.mem_append.1 hr with hr | hr
                        · exact HWS.out r hr
                        · simp only [List.mem_singleton] at hr
                          subst hr
                          exact ⟨hqr, hqb⟩) hl0 (by omega) (by simp; omega)
                  · as_aux_lemma =>
                    clear hpkk hdbl htk
                    have hwl1 : IntKind.i64.wrap (l + 1) = l + 1 := IntWalk.i64_in _ (by omega)
                    go_wp2_with (go_at_call 80; go_must (refine hlos.mono ?_; rintro e w5 ⟨rfl, hnt⟩))
                    have hnt2 := hnt
                    obtain ⟨A6, c6, h6, hd6, _, _⟩ := hnt2
                    have hB5 : Rd w5 (some ⟨bB, oB, none⟩) (pkC ws) := hRb.keep hd6 (fun x hx hs => (hcl x hx).1 hs)
                    have k5 : Chg (fun _ => False) w5 w5.drew := (Chg.refl _ _).drew
                    have hR7 : ∀ w', Chg (fun _ => False) w5 w' → Rd w' (some ⟨bB, oB, none⟩) (pkC ws) := fun w' hw => hB5.keep hw (fun _ _ h => h)
                    go_region_held3 (fun _ => True) (trivial)
                      (first
                      | (refine step_append_rd _ (by rfl) (.tmp 139) (.tmp 143) 82 (by rfl) w5.heap.size 69 i0 _ 3 40 Try.underlying82 hi hz0 hz1 hz2 (by rfl) (by decide) A8 kk c8 (pkC (ws.take kk)) (by first | rfl | (simp only [Nat.zero_add]; rfl)) (by exact hown8) B2 (ws.length - (kk + 1)) (d - (kk + 1)) (pkC (ws.drop (kk + 1))) (by rfl) (by rw [pkC_len, List.length_drop]) (by exact hR2.out _ (hR7 _ hc8)) (pkC_one _) hl3 hl4 (by exact hc8.size) ?_; intro A9 c9 w9 hown9 hg9 hb9; have hc9 : Chg (fun _ => False) w5 w9 := hc8.trans hg9 (fun x hx => .inr (own_lt hown8 hx).1))
                      | (refine step_append_rd _ (by rfl) (.tmp 135) (.tmp 138) 82 (by rfl) w5.heap.size 69 i0 _ 3 40 Try.underlying82 hi hz0 hz1 hz2 (by rfl) (by decide) _ 0 0 [] (by rfl) (by exact World.ownsRow_made w5.drew #[] 0 k5.size (by decide) rfl) (some ⟨bB, oB, none⟩) kk d (pkC (ws.take kk)) (by rfl) (by rw [pkC_len, List.length_take]; omega) (by rw [← pkC_take]; exact (hR7 _ (k5.alloc _)).take _) (pkC_one _) hl1 hl2 (k5.alloc _).size ?_; intro A8 c8 w8 hown8 hg8 hb8; simp only [Nat.zero_add, List.nil_append] at hown8; have hc8 : Chg (fun _ => False) w5 w8 := (k5.alloc _).trans hg8 (fun x hx => .inr (by have e := Option.some.inj hx; subst e; exact k5.size)))
                      | fail)
                    go_wp2_with fail
                    go_meet
                    rw [HBL.out] at hown9 ⊢
                    rw [← pkC_app] at hown9
                    exact Inv.turn hNb hg0 hcwb hnt hc9 hown9 (but_v HV.out kk) (fun q hq => HWS.out q (butAt_sub q hq)) (by omega) (by omega) (by rw [← HBL.out]; omega)
                  · as_aux_lemma =>
                    clear hdbl htk hlos
                    go_wp2_with (go_at_call 72; go_must (refine hpkk.mono ?_; rintro e w5 ⟨A5, c5, rfl, ho5, hd5⟩))
                    have hc5 : Chg (fun _ => False) w w5 := hcwb.trans hd5 (fun x hx => hx.elim)
                    have hB5 : Rd w5 (some ⟨bB, oB, none⟩) (pkC ws) := hRb.keep hd5 (fun x hx hs => hs.elim)
                    have hg5 : ∀ x, In A5 x → wb.heap.size ≤ x ∧ x < w5.heap.size := fun x hx => own_lt ho5 hx
                    obtain ⟨bx, hbx⟩ : ∃ bx, bx = w5.heap.size := ⟨_, rfl⟩
                    obtain ⟨w6, hw6⟩ : ∃ w6, w6 = w5.alloc (.cells #[.int .i64 q.f, .int .i64 q.t, .slice A5 q.bs.length c5] 69) := ⟨_, rfl⟩
                    have bp : BoxPk w6 bx q.f q.t (.slice A5 q.bs.length c5) := by rw [hw6, hbx]; exact BoxPk.new w5 _ _ _
                    have hd56 : Chg (fun _ => False) w5 w6 := by rw [hw6]; exact (Chg.refl _ _).alloc _
                    rw [← hw6, ← hbx]
                    have hbx2 : w5.heap.size ≤ bx := by rw [hbx]; exact Nat.le_refl _
                    clear hw6 hbx
                    have hA5 : ∀ w', Chg (fun _ => False) w6 w' → Rd w' A5 (q.bs.map (Value.int .u8)) := fun w' hw => ((Rd.of_own ho5).keep hd56 (fun _ _ h => h)).keep hw (fun _ _ h => h)
                    have hS : ∀ w', Chg (fun _ => False) w6 w' → (w'.cell? ⟨bx, 0, none⟩ = some (.int .i64 q.f) ∧ w'.cell? ⟨bx, 1, none⟩ = some (.int .i64 q.t) ∧ w'.cell? ⟨bx, 2, none⟩ = some (.slice A5 q.bs.length c5)) ∧ w'.cell? ⟨bB, oB + kk * 3, none⟩ = some (.int .i64 q.f) ∧ w'.cell? ⟨bB, oB + kk * 3 + 1, none⟩ = some (.int .i64 q.t) ∧ w'.cell? ⟨bB, oB + kk * 3 + 2, none⟩ = some (.slice q.A q.bs.length q.c) := fun w' hw =>
                      ⟨⟨(bp.keep hw (fun h => h)).c0, (bp.keep hw (fun h => h)).c1, (bp.keep hw (fun h => h)).c2⟩, hcells w' ((hB5.keep hd56 (fun _ _ h => h)).keep hw (fun _ _ h => h))⟩
                    have k0 : Chg (fun _ => False) w6 w6.drew := (Chg.refl _ _).drew
                    go_region_held3 (fun w' => w'.cell? ⟨bx, 0, none⟩ = some (.int .i64 q.f) ∧ w'.cell? ⟨bx, 1, none⟩ = some (.int .i64 q.t) ∧ w'.cell? ⟨bx, 2, none⟩ = some (.slice A5 q.bs.length c5) ∧ w'.cell? ⟨bB, oB + kk * 3, none⟩ = some (.int .i64 q.f) ∧ w'.cell? ⟨bB, oB + kk * 3 + 1, none⟩ = some (.int .i64 q.t) ∧ w'.cell? ⟨bB, oB + kk * 3 + 2, none⟩ = some (.slice q.A q.bs.length q.c)) (first | exact (let h := hS _ k1; ⟨h.1.1, h.1.2.1, h.1.2.2, h.2.1, h.2.2.1, h.2.2.2⟩) | exact (let h := hS _ k0; ⟨h.1.1, h.1.2.1, h.1.2.2, h.2.1, h.2.2.1, h.2.2.2⟩)) (first
                      | (go_at_call 81; go_must (refine (samePk_yes q.f q.t A5 q.A q.bs.length c5 q.bs.length q.c q.bs _ (hA5 _ k0) (hqA _ ((hc5.trans hd56 (fun x hx => hx.elim)).trans k0 (fun x hx => hx.elim))) rfl rfl).mono ?_; rintro e w7 ⟨rfl, hd⟩; have k1 := k0.trans hd (fun x hx => hx.elim); clear hd)))
                    all_goals
                      go_wp2_with fail
                      have hdb7 : Chg (fun _ => False) wb w7 := (hd5.trans hd56 (fun x hx => hx.elim)).trans k1 (fun x hx => hx.elim)
                      have bp7 := bp.keep k1 (fun h => h)
                      have ho7 : w7.ownsRow wb.heap.size 5 1 (.slice A5 q.bs.length c5) q.bs.length (q.bs.map (Value.int .u8)) := k1.own (hd56.own ho5 (fun _ _ h => h)) (fun _ _ h => h)
                      clear hS hA5 k0 k1
                      go_loopw [14] (fun i w' => ∃ j : Nat, j ≤ q.bs.length ∧ i = .int .i64 j ∧ BoxPk w' bx q.f q.t (.slice A5 q.bs.length c5) ∧ (∃ xs : List Int, xs.length = q.bs.length ∧ w'.ownsRow wb.heap.size 5 1 (.slice A5 q.bs.length c5) q.bs.length (xs.map (Value.int .u8))) ∧ Chg (fun _ => False) wb w') (fun i _ => q.bs.length - (intOf i).toNat)
                      case atStart => exact ⟨0, by omega, rfl, bp7, ⟨q.bs, rfl, ho7⟩, hdb7⟩
                      case round =>
                        clear bp7 ho7 hdb7
                        obtain ⟨j, hj, rfl, bp8, ⟨xs, hxl, ho8⟩, hd8⟩ := hrel
                        have q2 := bp8.c2
                        by_cases hjn : j < q.bs.length
                        · obtain ⟨g5, rfl⟩ : ∃ g5, A5 = some ⟨g5, 0, none⟩ := by
                            rcases ho8.2 with ⟨_, h0⟩ | ⟨g9, cap9, cur9, hv9, _⟩
                            · omega
                            · injection hv9 with h9; exact ⟨g9, h9⟩
                          have hjx : j < xs.length := by omega
                          have u0 : wr.cell? ⟨g5, j, none⟩ = some (.int .u8 xs[j]) := by rw [ho8.cellAt j (by omega), List.getElem?_map, List.getElem?_eq_getElem hjx]; rfl
                          have u1 : wr.frozen? ⟨g5, j, none⟩ = false := ho8.frozenAt j
                          obtain ⟨x, hx⟩ : ∃ x, x = xs[j] := ⟨_, rfl⟩
                          rw [← hx] at u0
                          clear hx
                          have n0 : (0 : Int) ≤ (j : Int) := by omega
                          have n1 : (j : Int) < (q.bs.length : Int) := by omega
                          have hXL := Lib.hid hxl
                          clear hxl
                          go_wp2_with fail
                          go_roundw
                          case rel =>
                            have hbg : bx ≠ g5 := by have := (hg5 g5 rfl).2; have := bp8.lt; omega
                            exact ⟨j + 1, by omega, by go_num, bp8.keep (S := fun x => x = g5) ((Chg.refl (fun x => x = g5) _).setCell (p := ⟨g5, j, none⟩) (.inl rfl) _) hbg, ⟨xs.set j (IntKind.u8.wrap (x + 1)), by rw [List.length_set]; exact hXL.out, by rw [List.map_set]; exact (ho8.stored j _).1⟩, hd8.setCell (p := ⟨g5, j, none⟩) (.inr (hg5 g5 rfl).1) _⟩
                          case measure => simp [intOf]; omega
                        · go_wp2_with fail
                          go_meet
                          exact hI.still (hcb.trans hd8 (fun x hx => hx.elim))
              · as_aux_lemma =>
                have hout : y - 1 < 0 ∨ (ps.length : Int) ≤ y - 1 := by have := HL.out; omega
                have hd : inn = false := by rw [HI.out]; simp; omega
                subst hd
                obtain ⟨z, hz⟩ : ∃ z, z = y - 1 := ⟨_, rfl⟩
                rw [← hz] at hout ⊢
                clear HI hin hm hwy
                clear hz
                rcases (by omega : (x = 4 ∨ x = 5) ∨ x = 6 ∨ x = 7 ∨ x = 8) with h45 | rfl | rfl | rfl
                · rcases h45 with rfl | rfl
                  all_goals
                    go_wp2_with (go_at_call 71; go_must (refine (take_no _ g g c A ps l hNb z hout).mono ?_; rintro e w5 ⟨rfl, hd5⟩))
                    go_quiet (fail)
                    go_wp2_with fail
                    go_meet
                    exact hI.still (((hcb.trans hd5 (fun x hx => hx.elim)).alloc _).drewN _)
                · go_wp2_with (go_at_call 79; go_must (refine (double_no _ g g c A ps l hNb z (hout.imp id .inl)).mono ?_; rintro e w5 ⟨rfl, rfl⟩))
                  go_meet
                  exact hI.still hcb
                · go_wp2_with (go_at_call 80; go_must (refine (lose_no _ g g c A ps l hNb z hout).mono ?_; rintro e w5 ⟨rfl, hd5⟩))
                  go_meet
                  exact hI.still (hcb.trans hd5 (fun x hx => hx.elim))
                · go_wp2_with (go_at_call 72; go_must (refine (peek_no _ g g c A ps l hNb z hout).mono ?_; rintro e w5 ⟨rfl, hd5⟩; have bx5 := BoxPk.new w5 0 0 (.slice none 0 0); have q5 := bx5.c2))
                  go_quiet (fail)
                  go_wp2_with fail
                  go_loopw [14] (fun i w' => i = .int .i64 0 ∧ BoxPk w' w5.heap.size 0 0 (.slice none 0 0) ∧ Chg (fun _ => False) wr w') (fun _ _ => 0)
                  case atStart => exact ⟨rfl, bx5, ((hcb.trans hd5 (fun x hx => hx.elim)).alloc _).drewN _⟩
                  case round =>
                    clear q5 bx5
                    obtain ⟨rfl, bx6, hc6⟩ := hrel
                    have q6 := bx6.c2
                    go_wp2_with fail
                    go_meet
                    exact hI.still hc6
            · as_aux_lemma =>
              obtain ⟨n4, n5, n6, n7, n8⟩ := hxd
              have m4 : (x == 4) = false := by simpa using n4
              have m5 : (x == 5) = false := by simpa using n5
              have m6 : (x == 6) = false := by simpa using n6
              have m7 : (x == 7) = false := by simpa using n7
              have m8 : (x == 8) = false := by simpa using n8
              have d4 : decide (x = 4) = false := by simpa using n4
              have d5 : decide (x = 5) = false := by simpa using n5
              have d6 : decide (x = 6) = false := by simpa using n6
              have d7 : decide (x = 7) = false := by simpa using n7
              have d8 : decide (x = 8) = false := by simpa using n8
              have hpb := hcb.alloc (.cells #[.int .i64 zf, .int .i64 zt, .slice vB vn vc] 69)
              have hNp := hNb.keep (S := fun _ => False) ((Chg.refl _ _).alloc (.cells #[.int .i64 zf, .int .i64 zt, .slice vB vn vc] 69)) (fun x hx => hx.elim)
              have bxp := BoxPk.new wb zf zt (.slice vB vn vc)
              have hRp := hsob.rd.alloc (.cells #[.int .i64 zf, .int .i64 zt, .slice vB vn vc] 69)
              have p0 := bxp.c0
              have p1 := bxp.c1
              have p2 := bxp.c2
              have hbaseP : g ≤ (wb.alloc (.cells #[.int .i64 zf, .int .i64 zt, .slice vB vn vc] 69)).heap.size := by have := hNb.lt; simp; omega
              go_wp2_with (go_at_call 69; go_must (refine (put_yes _ g g c A ps l hNp zf zt vB vn vc vbs hRp hsob.len (by have := hsob.most; simp only at this; omega) (by have := HL.out; omega) hbaseP).mono ?_; rintro e w5 ⟨rfl, p, hp, hnt⟩))
              obtain ⟨wp, hwp⟩ : ∃ wp, wp = wb.alloc (.cells #[.int .i64 zf, .int .i64 zt, .slice vB vn vc] 69) := ⟨_, rfl⟩
              obtain ⟨gp, hgp⟩ : ∃ gp, gp = wb.heap.size := ⟨_, rfl⟩
              rw [← hwp] at hpb hNp bxp hRp p0 p1 p2 hbaseP hnt
              rw [← hgp] at bxp p0 p1 p2 ⊢
              have hnt2 := hnt
              obtain ⟨A5, c5, h5, hd5, _, _⟩ := hnt2
              have hgpc : ¬ nCore g A gp := fun hx => by have := (hNb.core_lt _ hx).2; omega
              have bx5 := bxp.keep hd5 hgpc
              have hRw : ∀ w', Chg (fun _ => False) w5 w' → Rd w' B (pkC ws) := fun w' hw => (((Rd.of_own hob).keep (hwp ▸ (Chg.refl (fun _ => False) wb).alloc _) (fun _ _ h => h)).keep hd5 (fun x hx hs => (hcl x hx).1 hs)).keep hw (fun _ _ h => h)
              clear p0 p1 p2 bxp hRp hbaseP hwp hgp hgpc b2 b3 b4
              obtain ⟨i0, hi, hz0, hz1, hz2⟩ := info_parts pkInfo
              have hS : ∀ w', Chg (fun _ => False) w5 w' → w'.cell? ⟨gp, 0, none⟩ = some (.int .i64 zf) ∧ w'.cell? ⟨gp, 1, none⟩ = some (.int .i64 zt) ∧ w'.cell? ⟨gp, 2, none⟩ = some (.slice vB vn vc) := fun w' hw =>
                ⟨(bx5.keep hw (fun h => h)).c0, (bx5.keep hw (fun h => h)).c1, (bx5.keep hw (fun h => h)).c2⟩
              have k0 : Chg (fun _ => False) w5 w5.drew := (Chg.refl _ _).drew
              have hvl := hsob.len
              simp only at hvl
              subst hvl
              have hl1 : 0 + ws.length ≤ maxLen := by simp only [maxLen]; omega
              have hl2 : (0 + ws.length) * 40 ≤ 140737488355328 := by omega
              have hl3 : ws.length + 1 ≤ maxLen := by simp only [maxLen]; omega
              have hl4 : (ws.length + 1) * 40 ≤ 140737488355328 := by omega
              go_region_held3 (fun w' => w'.cell? ⟨gp, 0, none⟩ = some (.int .i64 zf) ∧ w'.cell? ⟨gp, 1, none⟩ = some (.int .i64 zt) ∧ w'.cell? ⟨gp, 2, none⟩ = some (.slice vB vbs.length vc)) (first | exact hS _ hc7 | exact hS _ (hc6.alloc _) | exact hS _ hc6 | exact hS _ (k0.alloc _) | exact hS _ ((k0.alloc _).alloc _) | exact hS _ k0)
                (first
                | (refine step_append_rd _ (by rfl) (.tmp 71) (.tmp 73) 82 (by rfl) w5.heap.size 69 i0 _ 3 40 Try.underlying82 hi hz0 hz1 hz2 (by rfl) (by decide) A6 ws.length c6 (pkC ws) (by first | rfl | (simp only [Nat.zero_add]; rfl)) (by first | exact hown6 | exact hown6.alloc _) _ 1 1 (pkC [⟨zf, zt, vB, vc, vbs⟩]) (by rfl) (by rfl) (by first | exact hR6 | exact Rd.newRow w6 _ _ _ rfl) (pkC_one _) hl3 hl4 (by first | exact hc6.size | exact (hc6.alloc _).size) ?_; intro A7 c7 w7 hown7 hg7 hb7; have hc7 : Chg (fun _ => False) w5 w7 := Chg.trans (by first | exact hc6 | exact hc6.alloc _) hg7 (fun x hx => .inr (own_lt hown6 hx).1))
                | (refine step_append_rd _ (by rfl) (.tmp 69) (.tmp 70) 82 (by rfl) w5.heap.size 69 i0 _ 3 40 Try.underlying82 hi hz0 hz1 hz2 (by rfl) (by decide) _ 0 0 [] (by rfl) (by first | exact World.ownsRow_made w5.drew #[] 0 (Nat.le_refl _) (by decide) rfl) B ws.length d (pkC ws) (by rfl) (pkC_len _) (hRw _ (k0.alloc _)) (pkC_one _) hl1 hl2 (k0.alloc _).size ?_; intro A6 c6 w6 hown6 hg6 hb6; simp only [Nat.zero_add, List.nil_append] at hown6; have hc6 : Chg (fun _ => False) w5 w6 := (k0.alloc _).trans hg6 (fun x hx => .inr (by have e := Option.some.inj hx; subst e; exact Nat.le_refl _)))
                | (refine step_append_rd _ (by rfl) (.tmp 69) (.tmp 70) 82 (by rfl) w5.heap.size 69 i0 _ 3 40 Try.underlying82 hi hz0 hz1 hz2 (by rfl) (by decide) _ 0 0 [] (by rfl) (by first | exact World.ownsRow.alloc (World.ownsRow_made w5.drew #[] 0 (Nat.le_refl _) (by decide) rfl) _) B ws.length d (pkC ws) (by rfl) (pkC_len _) (hRw _ ((k0.alloc _).alloc _)) (pkC_one _) hl1 hl2 ((k0.alloc _).alloc _).size ?_; intro A6 c6 w6 hown6 hg6 hb6; simp only [Nat.zero_add, List.nil_append] at hown6; have hc6 : Chg (fun _ => False) w5 w6 := ((k0.alloc _).alloc _).trans hg6 (fun x hx => .inr (by have e := Option.some.inj hx; subst e; exact Nat.le_refl _)); have hR6 := (rd_made2 w5.drew (.cells #[] 69) 69 #[.int .i64 zf, .int .i64 zt, .slice vB vbs.length vc] (pkC [⟨zf, zt, vB, vc, vbs⟩]) rfl).keep hg6 (fun x hx hs => by have e := Option.some.inj hx; have e2 := Option.some.inj hs; have e3 : w5.drew.heap.size = w5.heap.size := rfl; simp only [] at e e2; omega))
                | (refine step_append_rd _ (by rfl) (.tmp 69) (.tmp 70) 82 (by rfl) w5.heap.size 69 i0 _ 3 40 Try.underlying82 hi hz0 hz1 hz2 (by rfl) (by decide) _ 0 0 [] (by rfl) (by exact own_made2 w5.drew _ _ _ (Nat.le_refl _)) B ws.length d (pkC ws) (by rfl) (pkC_len _) (hRw _ ((k0.alloc _).alloc _)) (pkC_one _) hl1 hl2 ((k0.alloc _).alloc _).size ?_; intro A6 c6 w6 hown6 hg6 hb6; simp only [Nat.zero_add, List.nil_append] at hown6; have hc6 : Chg (fun _ => False) w5 w6 := ((k0.alloc _).alloc _).trans hg6 (fun x hx => .inr (by have e := Option.some.inj hx; subst e; exact Nat.le_succ _)); have hR6 := ((Rd.newRow w5.drew 69 #[.int .i64 zf, .int .i64 zt, .slice vB vbs.length vc] (pkC [⟨zf, zt, vB, vc, vbs⟩]) rfl).alloc _).keep hg6 (fun x hx hs => by have e := Option.some.inj hx; have e2 := Option.some.inj hs; have e3 : w5.drew.heap.size = w5.heap.size := rfl; simp only [] at e e2; omega)))
              all_goals
                go_wp2_with fail
                go_meet
                have e : ws.length + 1 = (ws ++ [(⟨zf, zt, vB, vc, vbs⟩ : Pk)]).length := by simp
                rw [e, ← pkC_app] at hown7
                rw [e]
                exact Inv.turn hNp hg0 (hc.trans hpb (fun x hx => hx.elim)) hnt hc7 hown7 (by rw [List.map_append, List.map_append, HV.out]; simp only [List.map_cons, List.map_nil, hp]; rfl) (by
                  intro q hq
                  rcases List.mem_append.1 hq with hq | hq
                  · exact HWS.out q hq
                  · simp only [List.mem_singleton] at hq
                    subst hq
                    exact ⟨so0.rd, so0.most⟩) hl0 (by omega) (by simp; omega)
          case rest => as_aux_lemma =>
            clear hN hv ho hws hcl hc s0 s1 s2 s3 s4 so so0 hP hQ hm hx hwl hwy
            obtain ⟨A6, c6, qs, vs, B6, d6, l6, rfl, rfl, q0, q1, q2, hN6, hv6, ho6, hws6, hcl6, hc6⟩ := hcut
            have hlen : vs.length = qs.length := by simpa using congrArg List.length hv6
            have hlen2 : (qs.length : Int) = (vs.length : Int) := by omega
            have HL := Lib.hid hlen
            clear hlen
            have hnl : (l6 != l6) = false := by simp
            go_wp2_with (first
              | (go_at_call 70; go_must (refine (netLen_any _ g g c6 A6 qs l6 hN6).mono ?_; rintro e w' ⟨rfl, rfl⟩; rw [hlen2]))
              | (go_at_call 73; go_must (refine (netLost_any _ g g c6 A6 qs l6 hN6).mono ?_; rintro e w' ⟨rfl, rfl⟩)))
            obtain ⟨n6, hn6⟩ : ∃ n6, n6 = vs.length := ⟨_, rfl⟩
            have HV := Lib.hid hv6
            have HO := Lib.hid ho6
            have HWS := Lib.hid hws6
            have HCL := Lib.hid hcl6
            clear hv6 ho6 hws6 hcl6
            go_loopw [16] (fun i w' => ∃ j : Nat, j ≤ vs.length ∧ i = .int .i64 j ∧ Chg (fun _ => False) wc w') (fun i _ => vs.length - (intOf i).toNat)
            case atStart => exact ⟨0, by omega, rfl, Chg.refl _ _⟩
            case round =>
              obtain ⟨j, hj, rfl, hcj⟩ := hrel
              by_cases hjv : j < vs.length
              · have hNj := hN6.keep hcj (fun x hx => hx.elim)
                have hjq : j < qs.length := by have := HL.out; omega
                have hveq : qs[j].v = vs[j].v := by
                  have e := HV.out
                  have e1 : (qs.map Pk.v)[j]? = (vs.map Pk.v)[j]? := by rw [e]
                  rw [List.getElem?_map, List.getElem?_map, List.getElem?_eq_getElem hjq, List.getElem?_eq_getElem hjv] at e1
                  exact Option.some.inj e1
                have e1 : qs[j].f = vs[j].f := congrArg (fun x => x.1) hveq
                have e2 : qs[j].t = vs[j].t := congrArg (fun x => x.2.1) hveq
                have e3 : qs[j].bs = vs[j].bs := congrArg (fun x => x.2.2) hveq
                obtain ⟨hwr, hwb⟩ := HWS.out vs[j] (List.getElem_mem _)
                have hpk := peek_yes wr g g c6 A6 qs l6 hNj j hjq (by omega) (by rw [e3]; omega)
                rw [e1, e2, e3] at hpk
                obtain ⟨b6, o6, rfl, _⟩ := (Rd.of_own HO.out).at_ (k := 0) (by rw [pkC_len]; omega)
                obtain ⟨p0, p1, p2⟩ := pkC_get vs j hjv
                have hcells : ∀ w', Chg (fun _ => False) wc w' → w'.cell? ⟨b6, o6 + j * 3, none⟩ = some (.int .i64 vs[j].f) ∧ w'.cell? ⟨b6, o6 + j * 3 + 1, none⟩ = some (.int .i64 vs[j].t) ∧ w'.cell? ⟨b6, o6 + j * 3 + 2, none⟩ = some (.slice vs[j].A vs[j].bs.length vs[j].c) := fun w' hw =>
                  ⟨((Rd.of_own HO.out).keep hw (fun _ _ h => h)).cells rfl _ _ p0, by rw [Nat.add_assoc]; exact ((Rd.of_own HO.out).keep hw (fun _ _ h => h)).cells rfl _ _ p1, by rw [Nat.add_assoc]; exact ((Rd.of_own HO.out).keep hw (fun _ _ h => h)).cells rfl _ _ p2⟩
                obtain ⟨q, hq⟩ : ∃ q, q = vs[j] := ⟨_, rfl⟩
                rw [← hq] at hpk hcells hwr hwb
                clear p0 p1 p2 hq hveq e1 e2 e3
                go_wp2_with (go_at_call 72; go_must (refine hpk.mono ?_; rintro e w5 ⟨A5, c5, rfl, hf5, hd5⟩))
                obtain ⟨bx, hbx⟩ : ∃ bx, bx = w5.heap.size := ⟨_, rfl⟩
                obtain ⟨w6, hw6⟩ : ∃ w6, w6 = w5.alloc (.cells #[.int .i64 q.f, .int .i64 q.t, .slice A5 q.bs.length c5] 69) := ⟨_, rfl⟩
                have bp : BoxPk w6 bx q.f q.t (.slice A5 q.bs.length c5) := by rw [hw6, hbx]; exact BoxPk.new w5 _ _ _
                have hd6 : Chg (fun _ => False) w5 w6 := by rw [hw6]; exact (Chg.refl _ _).alloc _
                have hcj6 : Chg (fun _ => False) wc w6 := (hcj.trans hd5 (fun x hx => hx.elim)).trans hd6 (fun x hx => hx.elim)
                have hA5 : ∀ w', Chg (fun _ => False) w6 w' → Rd w' A5 (q.bs.map (Value.int .u8)) := fun w' hw => (hf5.1.keep hd6 (fun _ _ h => h)).keep hw (fun _ _ h => h)
                have hqA : ∀ w', Chg (fun _ => False) wc w' → Rd w' q.A (q.bs.map (Value.int .u8)) := fun w' hw => hwr.keep (hc6.trans hw (fun x hx => hx.elim)) (fun _ _ h => h)
                rw [← hw6, ← hbx]
                clear hw6 hbx hd5 hd6 hpk hf5
                have hS : ∀ w', Chg (fun _ => False) w6 w' → (w'.cell? ⟨bx, 0, none⟩ = some (.int .i64 q.f) ∧ w'.cell? ⟨bx, 1, none⟩ = some (.int .i64 q.t) ∧ w'.cell? ⟨bx, 2, none⟩ = some (.slice A5 q.bs.length c5)) ∧ w'.cell? ⟨b6, o6 + j * 3, none⟩ = some (.int .i64 q.f) ∧ w'.cell? ⟨b6, o6 + j * 3 + 1, none⟩ = some (.int .i64 q.t) ∧ w'.cell? ⟨b6, o6 + j * 3 + 2, none⟩ = some (.slice q.A q.bs.length q.c) := fun w' hw =>
                  ⟨⟨(bp.keep hw (fun h => h)).c0, (bp.keep hw (fun h => h)).c1, (bp.keep hw (fun h => h)).c2⟩, hcells w' (hcj6.trans hw (fun x hx => hx.elim))⟩
                have k0 : Chg (fun _ => False) w6 w6.drew := (Chg.refl _ _).drew
                have j0 : (0 : Int) ≤ (j : Int) := by omega
                have j1 : (j : Int) < (vs.length : Int) := by omega
                go_region_held3 (fun w' => w'.cell? ⟨bx, 0, none⟩ = some (.int .i64 q.f) ∧ w'.cell? ⟨bx, 1, none⟩ = some (.int .i64 q.t) ∧ w'.cell? ⟨bx, 2, none⟩ = some (.slice A5 q.bs.length c5) ∧ w'.cell? ⟨b6, o6 + j * 3, none⟩ = some (.int .i64 q.f) ∧ w'.cell? ⟨b6, o6 + j * 3 + 1, none⟩ = some (.int .i64 q.t) ∧ w'.cell? ⟨b6, o6 + j * 3 + 2, none⟩ = some (.slice q.A q.bs.length q.c)) (first | exact (let h := hS _ k1; ⟨h.1.1, h.1.2.1, h.1.2.2, h.2.1, h.2.2.1, h.2.2.2⟩) | exact (let h := hS _ k0; ⟨h.1.1, h.1.2.1, h.1.2.2, h.2.1, h.2.2.1, h.2.2.2⟩)) (first
                  | (go_at_call 81; go_must (refine (samePk_yes q.f q.t A5 q.A q.bs.length c5 q.bs.length q.c q.bs _ (hA5 _ k0) (hqA _ (hcj6.trans k0 (fun x hx => hx.elim))) rfl rfl).mono ?_; rintro e w7 ⟨rfl, hd⟩; have k1 := k0.trans hd (fun x hx => hx.elim); clear hd)))
                all_goals
                  go_wp2_with fail
                  go_roundw
                  case rel => exact ⟨j + 1, by omega, by go_num, hcj6.trans k1 (fun x hx => hx.elim)⟩
                  case measure => simp [intOf]; omega
              · go_wp2_with fail
                go_roundw
                case rel => exact ⟨k + 1, by omega, by omega, by go_num, ⟨A6, c6, qs, vs, B6, d6, l6, rfl, rfl, q0, by omega, by omega, hN6.keep hcj (fun x hx => hx.elim), HV.out, hcj.own HO.out (fun _ _ h => h), HWS.out, fun x hx => ⟨(HCL.out x hx).1, Nat.lt_of_lt_of_le (HCL.out x hx).2 hcj.size⟩, hc6.trans hcj (fun x hx => hx.elim)⟩⟩
                case measure => simp [intOf]; omega
      · go_wp2_with fail
        go_ret
        exact ⟨rfl, hc⟩
    · go_wp2_with fail
      go_ret
      exact ⟨rfl, hc⟩
end Go.Proofs.Ytngfimjbgopgjaa.netPlays
