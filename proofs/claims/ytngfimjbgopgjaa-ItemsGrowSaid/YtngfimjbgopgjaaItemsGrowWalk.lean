/- ItemsGrow: the walk of cutoverlaw9.ItemsGrow: it answers true, and turns nothing that was there. -/
import Derived.Test.YtngfimjbgopgjaaOctKnown
import Derived.Test.YtngfimjbgopgjaaArgs
import Derived.Test.YtngfimjbgopgjaaItM
import Derived.Test.YtngfimjbgopgjaaItAdd
import Derived.Test.YtngfimjbgopgjaaItKnown9
namespace Go.Proofs.Ytngfimjbgopgjaa.itemsGrow
open Go.RowKit
set_option linter.unusedVariables false

/-- What holds of the items, the versions wanted and the last version between rounds. -/
structure Grow (L : List It) (want : List Int) (now : Int) (k : Nat) : Prop where
  tells : Tells L want
  len : want.length = k
  all : ∀ a ∈ L, a.1 ≤ 200 ∧ rightB a.2 = true
  good : isGood now
  lo : 1 ≤ now
  hi : now ≤ 1 + 7 * k
  last : (lastL L).2 ≤ now
  pos : ∀ x ∈ want, 1 ≤ x
theorem Grow.short {L : List It} {want : List Int} {now : Int} {k : Nat} (h : Grow L want now k) : L.length ≤ k := by
  have : ∀ (l : List It) (q : It), rises q l → 0 ≤ q.1 → (l.length : Int) ≤ (lastOr q l).1 - q.1 := by
    intro l
    induction l with
    | nil => intro q _ _; simp [lastOr]
    | cons a l ih =>
      intro q h h0
      obtain ⟨h1, h2, h3⟩ := h
      have := ih a h3 (by omega)
      simp only [lastOr, List.length_cons]
      omega
  have h1 := this L (0, 0) h.tells.up (by decide)
  have h2 := h.tells.last
  rw [lastL_or] at h2
  have h3 := h.len
  simp only [Int.sub_zero] at h1
  omega
theorem rightB_good {v : Int} (h : isGood v) (h1 : 1 ≤ v) (h2 : v ≤ 1000) : rightB v = true := by
  obtain ⟨a, b⟩ := h
  exact rightB_iff.2 (by omega)
theorem Grow.step {L : List It} {want : List Int} {now v : Int} {k : Nat} (h : Grow L want now k) (hk : k < 60) (hv : now ≤ v) (hv2 : v ≤ now + 7) (hg : isGood v) :
    Grow (grownL L ((k : Int) + 1) v) (want ++ [v]) v (k + 1) ∧ rightL (grownL L ((k : Int) + 1) v) = true := by
  have hl := h.len
  have h0 := h.lo
  have h9 := h.hi
  have hla := h.last
  obtain ⟨t1, t2⟩ := h.tells.grow v (by omega) (by omega)
  rw [hl] at t1 t2
  have hall : ∀ a ∈ grownL L ((k : Int) + 1) v, a.1 ≤ 200 ∧ rightB a.2 = true := grownL_all h.all ⟨by show (k : Int) + 1 ≤ 200; omega, rightB_good hg (by omega) (by omega)⟩
  exact ⟨⟨t1, by simp [hl], hall, hg, by omega, by omega, by rw [t2]; exact Int.le_refl _, fun x hx => by
    rcases List.mem_append.1 hx with hx | hx
    · exact h.pos x hx
    · simp only [List.mem_singleton] at hx; omega⟩, rightFrom_of t1.up hall⟩
theorem Grow.right {L : List It} {want : List Int} {now : Int} {k : Nat} (h : Grow L want now k) : rightL L = true := rightFrom_of h.tells.up h.all

theorem hverV_small (v n : Int) (h0 : 0 ≤ n) (h1 : n ≤ 1) (hg : isGood v) : v ≤ hverV v n ∧ hverV v n ≤ v + 7 ∧ isGood (hverV v n) := by
  rcases (show n = 0 ∨ n = 1 by omega) with rfl | rfl
  · exact ⟨Int.le_refl _, by show v ≤ v + 7; omega, hg⟩
  · have := nextGood_facts v
    exact ⟨by show v ≤ nextGood v; omega, by show nextGood v ≤ v + 7; omega, this.2.2.1⟩
theorem cutGo_len (id last : Int) (l : List It) : (cutGo id last l).length ≤ l.length := by
  induction l generalizing last with
  | nil => simp [cutGo]
  | cons a l ih =>
    rw [cutGo]
    split
    · have := ih (min a.1 id); simp; exact this
    · have := ih last; simp; omega
/-- Between the rounds. -/
def GRel (w0 wr : World) (k : Nat) (a b now : Value) : Prop :=
  ∃ (L : List It) (want : List Int) (v : Int) (A B : Option Addr) (c d : Nat), a = .slice A L.length c ∧ b = .slice B k d ∧ now = .int .i64 v ∧ Grow L want v k ∧ RdIt wr A L ∧ wr.ownsRow w0.heap.size 3 1 (.slice B k d) k (want.map (Value.int .i64)) ∧ Chg (fun _ => False) w0 wr ∧
    (L ≠ [] → ∀ x, blk A = some x → x < wr.heap.size)

set_option maxHeartbeats 1000000 in
set_option maxRecDepth 20000 in
theorem walk (w : World) (a0 : Option Addr) (len0 cap0 : Nat) (h0 : Ints w a0 len0 cap0) (a1 : Int) (h1 : (Lit.int .i64 a1).wf = true) :
    Calls Try.prog 18 #[.slice a0 len0 cap0, .int .i64 a1] w (SaysTrue w) := by
  obtain ⟨zs, rfl, hlc, hcm, hlm, hrd, hwf⟩ := h0
  obtain ⟨i0, hi, hz0, hz1, hz2⟩ := info_parts intInfo
  have HRD := Lib.hid hrd
  clear hrd h1 hwf
  go_enter Try.func18, Try.ntmps18
  go_wp2_with fail
  go_loopw [5, 6, 7, 8, 9, 10] (fun a b now i x e wr => ∃ k : Nat, k ≤ zs.length ∧ k ≤ 60 ∧ i = .int .i64 k ∧ GRel w wr k a b now) (fun _ _ _ i _ _ _ => 60 - (intOf i).toNat)
  case atStart => exact ⟨0, by omega, by omega, rfl, [], [], 1, none, none, 0, 0, rfl, rfl, rfl, ⟨Tells.nil, rfl, (by intro a ha; cases ha), ⟨by decide, by decide⟩, by omega, by omega, by decide, (by intro x hx; cases hx)⟩, Rd.nil _ _, World.ownsRow_nil _ _ _ _, Chg.refl _ _, fun h => absurd rfl h⟩
  case round =>
    obtain ⟨k, hk, hk6, rfl, L, want, v, A, B, c, d, rfl, rfl, rfl, hgr, hr, ho, hc, hlt⟩ := hrel
    have HG := Lib.hid hgr
    have hgl := hgr.lo
    have hgh := hgr.hi
    have hsh := hgr.short
    have hrt := hgr.right
    have hlast := hgr.tells.last
    have hwl := hgr.len
    have hlv := hgr.last
    clear hgr
    by_cases hkn : k < zs.length
    · by_cases h60 : k < 60
      · obtain ⟨b, o, rfl, hq⟩ := (HRD.out.keep hc (fun _ _ h => h)).at_ (k := k) (by simpa using hkn)
        rw [List.getElem_map] at hq
        obtain ⟨z, hz⟩ : ∃ z, z = zs[k] := ⟨_, rfl⟩
        rw [← hz] at hq
        clear hz
        have z1 := Int.emod_nonneg z (by omega : (9 : Int) ≠ 0)
        have z2 := Int.emod_lt_of_pos z (by omega : (0 : Int) < 9)
        obtain ⟨p, hp⟩ : ∃ p, p = z % 9 := ⟨_, rfl⟩
        rw [← hp] at z1 z2
        have hP : ∀ w', Calls Try.prog 22 #[.int .i64 z, .int .i64 9] w' fun e w'' => e = .returned (.int .i64 p) ∧ w' = w'' := fun w' => by rw [hp]; exact pick_any z 9 w' (by omega) (by omega)
        clear hp
        have hq7 : 0 ≤ p / 7 ∧ p / 7 ≤ 1 := by omega
        obtain ⟨u, hu⟩ : ∃ u, u = hverV v (p / 7) := ⟨_, rfl⟩
        obtain ⟨u1, u2, u3⟩ := hverV_small v (p / 7) hq7.1 hq7.2 HG.out.good
        rw [← hu] at u1 u2 u3
        have hV : ∀ w', Calls Try.prog 85 #[.int .i64 v, .int .i64 (p / 7)] w' fun e w'' => e = .returned (.int .i64 u) ∧ w' = w'' := fun w' => by rw [hu]; exact hVersion_any v _ w' hgl (by omega)
        clear hu hq7
        obtain ⟨G2, hright⟩ := HG.out.step h60 u1 u2 u3
        have hAdd : Calls Try.prog 86 #[.slice A L.length c, .int .i64 ((k : Int) + 1), .int .i64 u] wr (Added wr (grownL L ((k : Int) + 1) u)) :=
          add_yes A L.length c L ((k : Int) + 1) u wr hr rfl (by omega) hrt (by omega) (by omega) (rightB_good u3 (by omega) (by omega)) (by omega) (by omega)
        have hgn := grownL_len L ((k : Int) + 1) u
        obtain ⟨L2, hL2⟩ : ∃ L2, L2 = grownL L ((k : Int) + 1) u := ⟨_, rfl⟩
        rw [← hL2] at G2 hright hAdd hgn
        have HG2 := Lib.hid G2
        have HRT := Lib.hid hright
        have hln2 : L2.length ≤ 1048576 := by omega
        have hl1 : k + 1 ≤ maxLen := by simp only [maxLen]; omega
        have hl2 : (k + 1) * 8 ≤ 140737488355328 := by omega
        have hown1 : (want.map (Value.int .i64)).length = k := by rw [List.length_map, hwl]
        clear hL2 G2 hright hrt
        go_wp2_with (first
          | (go_at_call 22; go_must (with_reducible refine (hP _).mono ?_; rintro e w' ⟨rfl, rfl⟩))
          | (go_at_call 85; go_must (with_reducible refine (hV _).mono ?_; rintro e w' ⟨rfl, rfl⟩))
          | (go_at_call 86; go_must (refine hAdd.mono ?_; rintro e w2 ⟨A2, c2, rfl, ho2, hc2⟩))
          | (go_at_call 87; go_must (refine (itemsRight_any A2 L2.length c2 L2 w2 ho2.rd rfl hln2).mono ?_; rintro e w3 ⟨rfl, hc3⟩; rw [HRT.out]; have ho3 : w3.ownsRow w.heap.size 3 1 (.slice B k d) k (want.map (Value.int .i64)) := hc3.own (hc2.own ho (fun _ _ h => h)) (fun _ _ h => h); have hcA : Chg (fun _ => False) w w3 := (hc.trans hc2 (fun x hx => hx.elim)).trans hc3 (fun x hx => hx.elim); have hbase : w.heap.size ≤ (w3.alloc (.cells #[.int .i64 u] 3)).heap.size := (by have := hcA.size; simp; omega)))
          | (at_builtin; refine wpList_append_rd _ rfl (.tmp 47) (.tmp 49) 45 rfl w.heap.size 3 i0 _ 1 8 Try.underlying45 hi hz0 hz1 hz2 rfl (by decide) B k d (want.map (Value.int .i64)) rfl (World.ownsRow.alloc ho3 _) (some ⟨w3.heap.size, 0, none⟩) 1 1 [.int .i64 u] rfl rfl (Rd.new1 _ _ _) (one1 _ rfl) hl1 hl2 hbase ?_; intro B4 d4 w4 hown4 hg4 hb4))
        have hBlt : ∀ x, In B x → w.heap.size ≤ x ∧ x < wr.heap.size := fun x hx => own_lt ho hx
        have hc4 : Chg (In B) w3 w4 := ((Chg.refl _ w3).alloc _).trans hg4 (fun x hx => .inl hx)
        have hoff : Off (In B) A2 := fun x hx hb => by have h1 := (own_lt ho2 hx).1; have h2 := (hBlt x hb).2; omega
        go_roundw
        case rel => exact ⟨k + 1, by omega, by omega, by go_num, L2, want ++ [u], u, A2, B4, c2, d4, rfl, rfl, rfl, HG2.out, (ho2.rd.keep hc3 (fun _ _ h => h)).keep hc4 hoff, by rw [List.map_append]; exact hown4, (hcA.trans hc4 (fun x hx => .inr (hBlt x hx).1)), fun _ x hx => Nat.lt_of_lt_of_le (Nat.lt_of_lt_of_le (own_lt ho2 hx).2 hc3.size) hc4.size⟩
        case measure => simp [intOf]; omega
      · have hrw : Rd wr B (want.map (Value.int .i64)) := Rd.of_own ho
        clear ho hlt
        obtain ⟨wo, rfl⟩ : ∃ wo : World, wo = wr := ⟨_, rfl⟩
        have HRW := Lib.hid hrw
        have HRL := Lib.hid hr
        clear hrw hr
        have hk60 : (k : Int) ≤ 60 := by omega
        go_wp2_with fail
        go_loopw [11] (fun i w' => ∃ j : Nat, j ≤ k ∧ i = .int .i64 j ∧ Chg (fun _ => False) wo w') (fun i _ => k - (intOf i).toNat)
        case atStart => exact ⟨0, by omega, rfl, Chg.refl _ _⟩
        case round =>
          obtain ⟨j, hj, rfl, hcj⟩ := hrel
          by_cases hjk : j < k
          · obtain ⟨b, o, rfl, _⟩ := HRW.out.at_ (k := 0) (by simp; omega)
            have hjw : j < want.length := by omega
            have hcell : ∀ w', Chg (fun _ => False) wo w' → w'.cell? ⟨b, o + j, none⟩ = some (.int .i64 want[j]) := fun w' hw => (HRW.out.keep hw (fun _ _ h => h)).cells rfl j _ (by rw [List.getElem?_map, List.getElem?_eq_getElem hjw]; rfl)
            have hpos : 1 ≤ want[j] := HG.out.pos _ (List.getElem_mem _)
            have hver : versionL L ((j : Int) + 1) = want[j] := by rw [HG.out.tells.version _ (by omega), List.getD_eq_getElem?_getD, show ((j : Int) + 1 - 1).toNat = j by omega, List.getElem?_eq_getElem hjw]; rfl
            obtain ⟨x, hx⟩ : ∃ x, x = want[j] := ⟨_, rfl⟩
            rw [← hx] at hcell hpos hver
            have hhas : hasL L ((j : Int) + 1, x) = true := by simp [hasL, hver, show ¬ ((j : Int) + 1 = 0) by omega, show ¬ x = 0 by omega]
            have hV : ∀ w', Chg (fun _ => False) wo w' → Calls Try.prog 78 #[.slice A L.length c, .int .i64 ((j : Int) + 1)] w' fun e w'' => e = .returned (.int .i64 x) ∧ Chg (fun _ => False) w' w'' := fun w' hw => by rw [← hver]; exact version_any A L.length c L _ w' (HRL.out.keep hw (fun _ _ h => h)) rfl (by omega)
            have hH : ∀ w', Chg (fun _ => False) wo w' → Calls Try.prog 76 #[.slice A L.length c, .agg #[.int .i64 ((j : Int) + 1), .int .i64 x]] w' fun e w'' => e = .returned (.bool true) ∧ Chg (fun _ => False) w' w'' := fun w' hw => by rw [← hhas]; exact has_any A L.length c L _ _ w' (HRL.out.keep hw (fun _ _ h => h)) rfl (by omega)
            clear hx hver hhas hpos
            have hwj : IntKind.i64.wrap ((j : Int) + 1) = (j : Int) + 1 := IntWalk.i64_in _ (by omega)
            have j0 : (0 : Int) ≤ (j : Int) := by omega
            have j1 : (j : Int) < (k : Int) := by omega
            have k0 : Chg (fun _ => False) wo wr.drew := hcj.drew
            have xx : (x != x) = false := by simp
            go_wp2_with fail
            go_region_held3 (fun w' => w'.cell? ⟨b, o + j, none⟩ = some (.int .i64 x)) (first | exact hcell _ k2 | exact hcell _ k1 | exact hcell _ k0) (first
              | (go_at_call 78; go_must (with_reducible refine (hV _ k0).mono ?_; rintro e w5 ⟨rfl, hd⟩; have k1 := k0.trans hd (fun x hx => hx.elim); clear hd))
              | (go_at_call 76; go_must (with_reducible refine (hH _ k1).mono ?_; rintro e w6 ⟨rfl, hd⟩; have k2 := k1.trans hd (fun x hx => hx.elim); clear hd)))
            go_wp2_with fail
            go_roundw
            case rel => exact ⟨j + 1, by omega, by go_num, k2⟩
            case measure => simp [intOf]; omega
          · have hjk' : j = k := by omega
            subst hjk'
            have m1 := Int.emod_nonneg a1 (by omega : ((j : Int) + 1) ≠ 0)
            have m2 := Int.emod_lt_of_pos a1 (by omega : (0 : Int) < (j : Int) + 1)
            obtain ⟨cc, hcc⟩ : ∃ cc : Nat, a1 % ((j : Int) + 1) = cc := ⟨(a1 % ((j : Int) + 1)).toNat, by omega⟩
            have hcj2 : cc ≤ j := by omega
            have hP : ∀ w', Calls Try.prog 22 #[.int .i64 a1, .int .i64 ((j : Int) + 1)] w' fun e w'' => e = .returned (.int .i64 cc) ∧ w' = w'' := fun w' => by
              have := pick_any a1 ((j : Int) + 1) w' (by omega) (by omega)
              rwa [hcc] at this
            clear m1 m2 hcc
            obtain ⟨t1, t2, t3⟩ := HG.out.tells.cut (cc : Int) (by omega) (by omega)
            have t4 : versionL L ((j : Int) + 1) = 0 := by rw [HG.out.tells.version _ (by omega), List.getD_eq_getElem?_getD, List.getElem?_eq_none (by omega)]; rfl
            have hCL : (cutL L (cc : Int)).length ≤ 60 := Nat.le_trans (cutGo_len _ _ _) (by omega)
            have hCut : ∀ w', Chg (fun _ => False) wo w' → Calls Try.prog 77 #[.slice A L.length c, .int .i64 (cc : Int)] w' (GivesIt w' (cutL L (cc : Int))) := fun w' hw => cut_any A L.length c L _ w' (HRL.out.keep hw (fun _ _ h => h)) rfl (by omega)
            obtain ⟨C, hC⟩ : ∃ C, C = cutL L (cc : Int) := ⟨_, rfl⟩
            rw [← hC] at t1 t2 t3 hCL hCut
            clear hC
            obtain ⟨li, lv, hl2⟩ : ∃ li lv, lastL C = (li, lv) := ⟨_, _, rfl⟩
            rw [hl2] at t1 t2
            have hli : li = (cc : Int) := t1
            subst hli
            clear t1
            have hwj : IntKind.i64.wrap ((j : Int) + 1) = (j : Int) + 1 := IntWalk.i64_in _ (by omega)
            obtain ⟨z, hz⟩ : ∃ z, z = cmpL C L := ⟨_, rfl⟩
            rw [← hz] at t3
            have hLast : ∀ (wb : World) (A5 : Option Addr) (c5 : Nat), RdIt wb A5 C → Calls Try.prog 88 #[.slice A5 C.length c5] wb fun e w'' => e = .returned (.agg #[.int .i64 (cc : Int), .int .i64 lv]) ∧ Chg (fun _ => False) wb w'' := fun wb A5 c5 h => by
              have := last_any A5 C.length c5 C wb h rfl (by omega)
              rwa [hl2] at this
            have hComm : ∀ (wb : World) (A5 : Option Addr) (c5 : Nat), RdIt wb A5 C → Chg (fun _ => False) wo wb → Calls Try.prog 75 #[.slice A5 C.length c5, .slice A L.length c] wb fun e w'' => e = .returned (.agg #[.int .i64 (cc : Int), .int .i64 lv]) ∧ Chg (fun _ => False) wb w'' := fun wb A5 c5 h hw => by
              have := common_any A5 A C.length L.length c5 c C L wb h (HRL.out.keep hw (fun _ _ h => h)) rfl rfl (by omega) (by omega)
              rwa [t2] at this
            have hVer : ∀ (wb : World), Chg (fun _ => False) wo wb → Calls Try.prog 78 #[.slice A L.length c, .int .i64 ((j : Int) + 1)] wb fun e w'' => e = .returned (.int .i64 0) ∧ Chg (fun _ => False) wb w'' := fun wb hw => by
              have := version_any A L.length c L ((j : Int) + 1) wb (HRL.out.keep hw (fun _ _ h => h)) rfl (by omega)
              rwa [t4] at this
            have hCmp : ∀ (wb : World) (A5 : Option Addr) (c5 : Nat), RdIt wb A5 C → Chg (fun _ => False) wo wb → Calls Try.prog 83 #[.slice A5 C.length c5, .slice A L.length c] wb fun e w'' => e = .returned (.int .i64 z) ∧ Chg (fun _ => False) wb w'' := fun wb A5 c5 h hw => by
              have := compare_any A5 A C.length L.length c5 c C L wb h (HRL.out.keep hw (fun _ _ h => h)) rfl rfl (by omega) (by omega)
              rwa [← hz] at this
            clear hz hl2 t2 t4
            have hcw := hc
            rcases (show (cc = j) ∨ (¬ cc = j ∧ z < 0) by omega) with hcj3 | ⟨hcj3, hz0⟩
            · have e1 : ((cc : Int) == (j : Int)) = true := by rw [beq_dec]; simp; omega
              clear t3 hcj3
              go_wp2_with (first
                    | (go_at_call 22; go_must (with_reducible refine (hP _).mono ?_; rintro e w' ⟨rfl, rfl⟩))
                    | (go_at_call 77; go_must (refine (hCut _ hcj).mono ?_; rintro e wb ⟨A5, c5, rfl, ho5, hc5⟩; have hcb := hcj.trans hc5 (fun x hx => hx.elim); have hC5 : ∀ w', Chg (fun _ => False) wb w' → RdIt w' A5 C := (fun w' hw => ho5.rd.keep hw (fun _ _ h => h)); have kk := Chg.refl (fun _ => False) wb))
                    | (go_at_call 47; go_must (refine (known9_any _).mono ?_; rintro e w' ⟨rfl, hd⟩; replace kk := kk.trans hd (fun x hx => hx.elim); clear hd))
                    | (go_at_call 75; go_must (with_reducible refine (hComm _ A5 c5 (hC5 _ kk) (hcb.trans kk (fun x hx => hx.elim))).mono ?_; rintro e w' ⟨rfl, hd⟩; replace kk := kk.trans hd (fun x hx => hx.elim); clear hd))
                    | (go_at_call 88; go_must (with_reducible refine (hLast _ A5 c5 (hC5 _ kk)).mono ?_; rintro e w' ⟨rfl, hd⟩; replace kk := kk.trans hd (fun x hx => hx.elim); clear hd))
                    | (go_at_call 78; go_must (with_reducible refine (hVer _ (hcb.trans kk (fun x hx => hx.elim))).mono ?_; rintro e w' ⟨rfl, hd⟩; replace kk := kk.trans hd (fun x hx => hx.elim); clear hd))
                    | (go_at_call 83; go_must (with_reducible refine (hCmp _ A5 c5 (hC5 _ kk) (hcb.trans kk (fun x hx => hx.elim))).mono ?_; rintro e w' ⟨rfl, hd⟩; replace kk := kk.trans hd (fun x hx => hx.elim); clear hd)))
              rename_i K2 aK
              refine aK _ _ ?_
              simp only [List.getElem_toArray, List.getElem_cons_zero]
              go_wp2_with (first
                    | (go_at_call 75; go_must (with_reducible refine (hComm _ A5 c5 (hC5 _ kk) (hcb.trans kk (fun x hx => hx.elim))).mono ?_; rintro e w' ⟨rfl, hd⟩; replace kk := kk.trans hd (fun x hx => hx.elim); clear hd))
                    | (go_at_call 88; go_must (with_reducible refine (hLast _ A5 c5 (hC5 _ kk)).mono ?_; rintro e w' ⟨rfl, hd⟩; replace kk := kk.trans hd (fun x hx => hx.elim); clear hd))
                    | (go_at_call 78; go_must (with_reducible refine (hVer _ (hcb.trans kk (fun x hx => hx.elim))).mono ?_; rintro e w' ⟨rfl, hd⟩; replace kk := kk.trans hd (fun x hx => hx.elim); clear hd))
                    | (go_at_call 83; go_must (with_reducible refine (hCmp _ A5 c5 (hC5 _ kk) (hcb.trans kk (fun x hx => hx.elim))).mono ?_; rintro e w' ⟨rfl, hd⟩; replace kk := kk.trans hd (fun x hx => hx.elim); clear hd)))
              go_ret
              exact ⟨by simp, (hcw.trans hcb (fun x hx => hx.elim)).trans kk (fun x hx => hx.elim)⟩
            · have e1 : ((cc : Int) == (j : Int)) = false := by rw [beq_dec]; simp; omega
              clear t3
              go_wp2_with (first
                    | (go_at_call 22; go_must (with_reducible refine (hP _).mono ?_; rintro e w' ⟨rfl, rfl⟩))
                    | (go_at_call 77; go_must (refine (hCut _ hcj).mono ?_; rintro e wb ⟨A5, c5, rfl, ho5, hc5⟩; have hcb := hcj.trans hc5 (fun x hx => hx.elim); have hC5 : ∀ w', Chg (fun _ => False) wb w' → RdIt w' A5 C := (fun w' hw => ho5.rd.keep hw (fun _ _ h => h)); have kk := Chg.refl (fun _ => False) wb))
                    | (go_at_call 47; go_must (refine (known9_any _).mono ?_; rintro e w' ⟨rfl, hd⟩; replace kk := kk.trans hd (fun x hx => hx.elim); clear hd))
                    | (go_at_call 75; go_must (with_reducible refine (hComm _ A5 c5 (hC5 _ kk) (hcb.trans kk (fun x hx => hx.elim))).mono ?_; rintro e w' ⟨rfl, hd⟩; replace kk := kk.trans hd (fun x hx => hx.elim); clear hd))
                    | (go_at_call 88; go_must (with_reducible refine (hLast _ A5 c5 (hC5 _ kk)).mono ?_; rintro e w' ⟨rfl, hd⟩; replace kk := kk.trans hd (fun x hx => hx.elim); clear hd))
                    | (go_at_call 78; go_must (with_reducible refine (hVer _ (hcb.trans kk (fun x hx => hx.elim))).mono ?_; rintro e w' ⟨rfl, hd⟩; replace kk := kk.trans hd (fun x hx => hx.elim); clear hd))
                    | (go_at_call 83; go_must (with_reducible refine (hCmp _ A5 c5 (hC5 _ kk) (hcb.trans kk (fun x hx => hx.elim))).mono ?_; rintro e w' ⟨rfl, hd⟩; replace kk := kk.trans hd (fun x hx => hx.elim); clear hd)))
              rename_i K2 aK
              refine aK _ _ ?_
              simp only [List.getElem_toArray, List.getElem_cons_zero]
              go_wp2_with (first
                    | (go_at_call 75; go_must (with_reducible refine (hComm _ A5 c5 (hC5 _ kk) (hcb.trans kk (fun x hx => hx.elim))).mono ?_; rintro e w' ⟨rfl, hd⟩; replace kk := kk.trans hd (fun x hx => hx.elim); clear hd))
                    | (go_at_call 88; go_must (with_reducible refine (hLast _ A5 c5 (hC5 _ kk)).mono ?_; rintro e w' ⟨rfl, hd⟩; replace kk := kk.trans hd (fun x hx => hx.elim); clear hd))
                    | (go_at_call 78; go_must (with_reducible refine (hVer _ (hcb.trans kk (fun x hx => hx.elim))).mono ?_; rintro e w' ⟨rfl, hd⟩; replace kk := kk.trans hd (fun x hx => hx.elim); clear hd))
                    | (go_at_call 83; go_must (with_reducible refine (hCmp _ A5 c5 (hC5 _ kk) (hcb.trans kk (fun x hx => hx.elim))).mono ?_; rintro e w' ⟨rfl, hd⟩; replace kk := kk.trans hd (fun x hx => hx.elim); clear hd)))
              go_ret
              exact ⟨by simp, (hcw.trans hcb (fun x hx => hx.elim)).trans kk (fun x hx => hx.elim)⟩
    · have hrw : Rd wr B (want.map (Value.int .i64)) := Rd.of_own ho
      clear ho hlt
      obtain ⟨wo, rfl⟩ : ∃ wo : World, wo = wr := ⟨_, rfl⟩
      have HRW := Lib.hid hrw
      have HRL := Lib.hid hr
      clear hrw hr
      have hk60 : (k : Int) ≤ 60 := by omega
      go_wp2_with fail
      go_loopw [11] (fun i w' => ∃ j : Nat, j ≤ k ∧ i = .int .i64 j ∧ Chg (fun _ => False) wo w') (fun i _ => k - (intOf i).toNat)
      case atStart => exact ⟨0, by omega, rfl, Chg.refl _ _⟩
      case round =>
        obtain ⟨j, hj, rfl, hcj⟩ := hrel
        by_cases hjk : j < k
        · obtain ⟨b, o, rfl, _⟩ := HRW.out.at_ (k := 0) (by simp; omega)
          have hjw : j < want.length := by omega
          have hcell : ∀ w', Chg (fun _ => False) wo w' → w'.cell? ⟨b, o + j, none⟩ = some (.int .i64 want[j]) := fun w' hw => (HRW.out.keep hw (fun _ _ h => h)).cells rfl j _ (by rw [List.getElem?_map, List.getElem?_eq_getElem hjw]; rfl)
          have hpos : 1 ≤ want[j] := HG.out.pos _ (List.getElem_mem _)
          have hver : versionL L ((j : Int) + 1) = want[j] := by rw [HG.out.tells.version _ (by omega), List.getD_eq_getElem?_getD, show ((j : Int) + 1 - 1).toNat = j by omega, List.getElem?_eq_getElem hjw]; rfl
          obtain ⟨x, hx⟩ : ∃ x, x = want[j] := ⟨_, rfl⟩
          rw [← hx] at hcell hpos hver
          have hhas : hasL L ((j : Int) + 1, x) = true := by simp [hasL, hver, show ¬ ((j : Int) + 1 = 0) by omega, show ¬ x = 0 by omega]
          have hV : ∀ w', Chg (fun _ => False) wo w' → Calls Try.prog 78 #[.slice A L.length c, .int .i64 ((j : Int) + 1)] w' fun e w'' => e = .returned (.int .i64 x) ∧ Chg (fun _ => False) w' w'' := fun w' hw => by rw [← hver]; exact version_any A L.length c L _ w' (HRL.out.keep hw (fun _ _ h => h)) rfl (by omega)
          have hH : ∀ w', Chg (fun _ => False) wo w' → Calls Try.prog 76 #[.slice A L.length c, .agg #[.int .i64 ((j : Int) + 1), .int .i64 x]] w' fun e w'' => e = .returned (.bool true) ∧ Chg (fun _ => False) w' w'' := fun w' hw => by rw [← hhas]; exact has_any A L.length c L _ _ w' (HRL.out.keep hw (fun _ _ h => h)) rfl (by omega)
          clear hx hver hhas hpos
          have hwj : IntKind.i64.wrap ((j : Int) + 1) = (j : Int) + 1 := IntWalk.i64_in _ (by omega)
          have j0 : (0 : Int) ≤ (j : Int) := by omega
          have j1 : (j : Int) < (k : Int) := by omega
          have k0 : Chg (fun _ => False) wo wr.drew := hcj.drew
          have xx : (x != x) = false := by simp
          go_wp2_with fail
          go_region_held3 (fun w' => w'.cell? ⟨b, o + j, none⟩ = some (.int .i64 x)) (first | exact hcell _ k2 | exact hcell _ k1 | exact hcell _ k0) (first
            | (go_at_call 78; go_must (with_reducible refine (hV _ k0).mono ?_; rintro e w5 ⟨rfl, hd⟩; have k1 := k0.trans hd (fun x hx => hx.elim); clear hd))
            | (go_at_call 76; go_must (with_reducible refine (hH _ k1).mono ?_; rintro e w6 ⟨rfl, hd⟩; have k2 := k1.trans hd (fun x hx => hx.elim); clear hd)))
          go_wp2_with fail
          go_roundw
          case rel => exact ⟨j + 1, by omega, by go_num, k2⟩
          case measure => simp [intOf]; omega
        · have hjk' : j = k := by omega
          subst hjk'
          have m1 := Int.emod_nonneg a1 (by omega : ((j : Int) + 1) ≠ 0)
          have m2 := Int.emod_lt_of_pos a1 (by omega : (0 : Int) < (j : Int) + 1)
          obtain ⟨cc, hcc⟩ : ∃ cc : Nat, a1 % ((j : Int) + 1) = cc := ⟨(a1 % ((j : Int) + 1)).toNat, by omega⟩
          have hcj2 : cc ≤ j := by omega
          have hP : ∀ w', Calls Try.prog 22 #[.int .i64 a1, .int .i64 ((j : Int) + 1)] w' fun e w'' => e = .returned (.int .i64 cc) ∧ w' = w'' := fun w' => by
            have := pick_any a1 ((j : Int) + 1) w' (by omega) (by omega)
            rwa [hcc] at this
          clear m1 m2 hcc
          obtain ⟨t1, t2, t3⟩ := HG.out.tells.cut (cc : Int) (by omega) (by omega)
          have t4 : versionL L ((j : Int) + 1) = 0 := by rw [HG.out.tells.version _ (by omega), List.getD_eq_getElem?_getD, List.getElem?_eq_none (by omega)]; rfl
          have hCL : (cutL L (cc : Int)).length ≤ 60 := Nat.le_trans (cutGo_len _ _ _) (by omega)
          have hCut : ∀ w', Chg (fun _ => False) wo w' → Calls Try.prog 77 #[.slice A L.length c, .int .i64 (cc : Int)] w' (GivesIt w' (cutL L (cc : Int))) := fun w' hw => cut_any A L.length c L _ w' (HRL.out.keep hw (fun _ _ h => h)) rfl (by omega)
          obtain ⟨C, hC⟩ : ∃ C, C = cutL L (cc : Int) := ⟨_, rfl⟩
          rw [← hC] at t1 t2 t3 hCL hCut
          clear hC
          obtain ⟨li, lv, hl2⟩ : ∃ li lv, lastL C = (li, lv) := ⟨_, _, rfl⟩
          rw [hl2] at t1 t2
          have hli : li = (cc : Int) := t1
          subst hli
          clear t1
          have hwj : IntKind.i64.wrap ((j : Int) + 1) = (j : Int) + 1 := IntWalk.i64_in _ (by omega)
          obtain ⟨z, hz⟩ : ∃ z, z = cmpL C L := ⟨_, rfl⟩
          rw [← hz] at t3
          have hLast : ∀ (wb : World) (A5 : Option Addr) (c5 : Nat), RdIt wb A5 C → Calls Try.prog 88 #[.slice A5 C.length c5] wb fun e w'' => e = .returned (.agg #[.int .i64 (cc : Int), .int .i64 lv]) ∧ Chg (fun _ => False) wb w'' := fun wb A5 c5 h => by
            have := last_any A5 C.length c5 C wb h rfl (by omega)
            rwa [hl2] at this
          have hComm : ∀ (wb : World) (A5 : Option Addr) (c5 : Nat), RdIt wb A5 C → Chg (fun _ => False) wo wb → Calls Try.prog 75 #[.slice A5 C.length c5, .slice A L.length c] wb fun e w'' => e = .returned (.agg #[.int .i64 (cc : Int), .int .i64 lv]) ∧ Chg (fun _ => False) wb w'' := fun wb A5 c5 h hw => by
            have := common_any A5 A C.length L.length c5 c C L wb h (HRL.out.keep hw (fun _ _ h => h)) rfl rfl (by omega) (by omega)
            rwa [t2] at this
          have hVer : ∀ (wb : World), Chg (fun _ => False) wo wb → Calls Try.prog 78 #[.slice A L.length c, .int .i64 ((j : Int) + 1)] wb fun e w'' => e = .returned (.int .i64 0) ∧ Chg (fun _ => False) wb w'' := fun wb hw => by
            have := version_any A L.length c L ((j : Int) + 1) wb (HRL.out.keep hw (fun _ _ h => h)) rfl (by omega)
            rwa [t4] at this
          have hCmp : ∀ (wb : World) (A5 : Option Addr) (c5 : Nat), RdIt wb A5 C → Chg (fun _ => False) wo wb → Calls Try.prog 83 #[.slice A5 C.length c5, .slice A L.length c] wb fun e w'' => e = .returned (.int .i64 z) ∧ Chg (fun _ => False) wb w'' := fun wb A5 c5 h hw => by
            have := compare_any A5 A C.length L.length c5 c C L wb h (HRL.out.keep hw (fun _ _ h => h)) rfl rfl (by omega) (by omega)
            rwa [← hz] at this
          clear hz hl2 t2 t4
          have hcw := hc
          rcases (show (cc = j) ∨ (¬ cc = j ∧ z < 0) by omega) with hcj3 | ⟨hcj3, hz0⟩
          · have e1 : ((cc : Int) == (j : Int)) = true := by rw [beq_dec]; simp; omega
            clear t3 hcj3
            go_wp2_with (first
                  | (go_at_call 22; go_must (with_reducible refine (hP _).mono ?_; rintro e w' ⟨rfl, rfl⟩))
                  | (go_at_call 77; go_must (refine (hCut _ hcj).mono ?_; rintro e wb ⟨A5, c5, rfl, ho5, hc5⟩; have hcb := hcj.trans hc5 (fun x hx => hx.elim); have hC5 : ∀ w', Chg (fun _ => False) wb w' → RdIt w' A5 C := (fun w' hw => ho5.rd.keep hw (fun _ _ h => h)); have kk := Chg.refl (fun _ => False) wb))
                  | (go_at_call 47; go_must (refine (known9_any _).mono ?_; rintro e w' ⟨rfl, hd⟩; replace kk := kk.trans hd (fun x hx => hx.elim); clear hd))
                  | (go_at_call 75; go_must (with_reducible refine (hComm _ A5 c5 (hC5 _ kk) (hcb.trans kk (fun x hx => hx.elim))).mono ?_; rintro e w' ⟨rfl, hd⟩; replace kk := kk.trans hd (fun x hx => hx.elim); clear hd))
                  | (go_at_call 88; go_must (with_reducible refine (hLast _ A5 c5 (hC5 _ kk)).mono ?_; rintro e w' ⟨rfl, hd⟩; replace kk := kk.trans hd (fun x hx => hx.elim); clear hd))
                  | (go_at_call 78; go_must (with_reducible refine (hVer _ (hcb.trans kk (fun x hx => hx.elim))).mono ?_; rintro e w' ⟨rfl, hd⟩; replace kk := kk.trans hd (fun x hx => hx.elim); clear hd))
                  | (go_at_call 83; go_must (with_reducible refine (hCmp _ A5 c5 (hC5 _ kk) (hcb.trans kk (fun x hx => hx.elim))).mono ?_; rintro e w' ⟨rfl, hd⟩; replace kk := kk.trans hd (fun x hx => hx.elim); clear hd)))
            rename_i K2 aK
            refine aK _ _ ?_
            simp only [List.getElem_toArray, List.getElem_cons_zero]
            go_wp2_with (first
                  | (go_at_call 75; go_must (with_reducible refine (hComm _ A5 c5 (hC5 _ kk) (hcb.trans kk (fun x hx => hx.elim))).mono ?_; rintro e w' ⟨rfl, hd⟩; replace kk := kk.trans hd (fun x hx => hx.elim); clear hd))
                  | (go_at_call 88; go_must (with_reducible refine (hLast _ A5 c5 (hC5 _ kk)).mono ?_; rintro e w' ⟨rfl, hd⟩; replace kk := kk.trans hd (fun x hx => hx.elim); clear hd))
                  | (go_at_call 78; go_must (with_reducible refine (hVer _ (hcb.trans kk (fun x hx => hx.elim))).mono ?_; rintro e w' ⟨rfl, hd⟩; replace kk := kk.trans hd (fun x hx => hx.elim); clear hd))
                  | (go_at_call 83; go_must (with_reducible refine (hCmp _ A5 c5 (hC5 _ kk) (hcb.trans kk (fun x hx => hx.elim))).mono ?_; rintro e w' ⟨rfl, hd⟩; replace kk := kk.trans hd (fun x hx => hx.elim); clear hd)))
            go_ret
            exact ⟨by simp, (hcw.trans hcb (fun x hx => hx.elim)).trans kk (fun x hx => hx.elim)⟩
          · have e1 : ((cc : Int) == (j : Int)) = false := by rw [beq_dec]; simp; omega
            clear t3
            go_wp2_with (first
                  | (go_at_call 22; go_must (with_reducible refine (hP _).mono ?_; rintro e w' ⟨rfl, rfl⟩))
                  | (go_at_call 77; go_must (refine (hCut _ hcj).mono ?_; rintro e wb ⟨A5, c5, rfl, ho5, hc5⟩; have hcb := hcj.trans hc5 (fun x hx => hx.elim); have hC5 : ∀ w', Chg (fun _ => False) wb w' → RdIt w' A5 C := (fun w' hw => ho5.rd.keep hw (fun _ _ h => h)); have kk := Chg.refl (fun _ => False) wb))
                  | (go_at_call 47; go_must (refine (known9_any _).mono ?_; rintro e w' ⟨rfl, hd⟩; replace kk := kk.trans hd (fun x hx => hx.elim); clear hd))
                  | (go_at_call 75; go_must (with_reducible refine (hComm _ A5 c5 (hC5 _ kk) (hcb.trans kk (fun x hx => hx.elim))).mono ?_; rintro e w' ⟨rfl, hd⟩; replace kk := kk.trans hd (fun x hx => hx.elim); clear hd))
                  | (go_at_call 88; go_must (with_reducible refine (hLast _ A5 c5 (hC5 _ kk)).mono ?_; rintro e w' ⟨rfl, hd⟩; replace kk := kk.trans hd (fun x hx => hx.elim); clear hd))
                  | (go_at_call 78; go_must (with_reducible refine (hVer _ (hcb.trans kk (fun x hx => hx.elim))).mono ?_; rintro e w' ⟨rfl, hd⟩; replace kk := kk.trans hd (fun x hx => hx.elim); clear hd))
                  | (go_at_call 83; go_must (with_reducible refine (hCmp _ A5 c5 (hC5 _ kk) (hcb.trans kk (fun x hx => hx.elim))).mono ?_; rintro e w' ⟨rfl, hd⟩; replace kk := kk.trans hd (fun x hx => hx.elim); clear hd)))
            rename_i K2 aK
            refine aK _ _ ?_
            simp only [List.getElem_toArray, List.getElem_cons_zero]
            go_wp2_with (first
                  | (go_at_call 75; go_must (with_reducible refine (hComm _ A5 c5 (hC5 _ kk) (hcb.trans kk (fun x hx => hx.elim))).mono ?_; rintro e w' ⟨rfl, hd⟩; replace kk := kk.trans hd (fun x hx => hx.elim); clear hd))
                  | (go_at_call 88; go_must (with_reducible refine (hLast _ A5 c5 (hC5 _ kk)).mono ?_; rintro e w' ⟨rfl, hd⟩; replace kk := kk.trans hd (fun x hx => hx.elim); clear hd))
                  | (go_at_call 78; go_must (with_reducible refine (hVer _ (hcb.trans kk (fun x hx => hx.elim))).mono ?_; rintro e w' ⟨rfl, hd⟩; replace kk := kk.trans hd (fun x hx => hx.elim); clear hd))
                  | (go_at_call 83; go_must (with_reducible refine (hCmp _ A5 c5 (hC5 _ kk) (hcb.trans kk (fun x hx => hx.elim))).mono ?_; rintro e w' ⟨rfl, hd⟩; replace kk := kk.trans hd (fun x hx => hx.elim); clear hd)))
            go_ret
            exact ⟨by simp, (hcw.trans hcb (fun x hx => hx.elim)).trans kk (fun x hx => hx.elim)⟩
end Go.Proofs.Ytngfimjbgopgjaa.itemsGrow
