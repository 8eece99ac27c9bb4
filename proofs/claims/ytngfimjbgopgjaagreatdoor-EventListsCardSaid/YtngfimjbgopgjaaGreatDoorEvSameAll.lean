/- EvSameG, EvSameH, EvSameI, in one text (merge.py). -/
import Derived.Test.YtngfimjbgopgjaaGreatDoorEvReadG
import Derived.Test.YtngfimjbgopgjaaGreatDoorEvSame
/- Contracts of slices.Equal over numbers, event.sameDef, slices.EqualFunc over Defs, event.Same at any two events. -/
namespace Go.Proofs.YtngfimjbgopgjaaGreatDoor
open Go.RowKit
set_option linter.unusedVariables false

set_option maxHeartbeats 1000000 in
theorem equalI_any (A B : Option Addr) (n m c d : Nat) (l l' : List Int) (w : World) (ha : Rd w A (l.map (Value.int .i64))) (hb : Rd w B (l'.map (Value.int .i64))) (hn : l.length = n) (hm : l'.length = m) (hn2 : n ≤ 1048576) (hm2 : m ≤ 1048576) :
    Calls Tryz.prog 90 #[.slice A n c, .slice B m d] w fun e w' => e = .returned (.bool (decide (l = l'))) ∧ Chg (fun _ => False) w w' := by
  subst hn hm
  have HA := Lib.hid ha
  have HB := Lib.hid hb
  clear ha hb
  by_cases hlen : l.length = l'.length
  · have hd : decide (l.length = l'.length) = true := by simpa using hlen
    go_enter Tryz.func90, Tryz.ntmps90
    go_wp2_with fail
    go_loopw [13] (fun i wr => ∃ k : Nat, k ≤ l.length ∧ i = .int .i64 k ∧ l.take k = l'.take k ∧ Chg (fun _ => False) w wr) (fun i _ => l.length - (intOf i).toNat)
    case atStart => exact ⟨0, by omega, rfl, by simp, Chg.refl _ _⟩
    case round =>
      obtain ⟨k, hk, rfl, ht, hc⟩ := hrel
      by_cases hkn : k < l.length
      · have hkm : k < l'.length := by omega
        obtain ⟨b, o, rfl, hq⟩ := (HA.out.keep hc (fun _ _ h => h)).at_ (k := k) (by simpa using hkn)
        obtain ⟨b', o', rfl, hq'⟩ := (HB.out.keep hc (fun _ _ h => h)).at_ (k := k) (by simpa using hkm)
        rw [List.getElem_map] at hq hq'
        obtain ⟨x, hx⟩ : ∃ x, x = l[k] := ⟨_, rfl⟩
        obtain ⟨y, hy⟩ : ∃ y, y = l'[k] := ⟨_, rfl⟩
        rw [← hx] at hq
        rw [← hy] at hq'
        have HX := Lib.hid hx
        have HY := Lib.hid hy
        have HT := Lib.hid ht
        clear hx hy ht
        by_cases hxy : x = y
        · subst hxy
          have hb : (x != x) = false := by simp
          go_wp2_with fail
          go_quiet (fail)
          go_wp2_with fail
          go_roundw
          case rel => exact ⟨k + 1, by omega, by go_num, by rw [List.take_add_one, List.take_add_one, HT.out, List.getElem?_eq_getElem hkn, List.getElem?_eq_getElem hkm, ← HX.out, ← HY.out], hc.drewN _⟩
          case measure => simp [intOf]; omega
        · have hne : l ≠ l' := by
            intro e
            subst e
            exact hxy (HX.out.trans HY.out.symm)
          have HE := Lib.hid hne
          have hb : (x != y) = true := by simpa using hxy
          have hb2 : decide (x = y) = false := by simpa using hxy
          clear hne
          go_wp2_with fail
          go_quiet (fail)
          go_wp2_with fail
          go_ret
          exact ⟨by rw [decide_eq_false HE.out]; rfl, hc.drewN _⟩
      · have hkn' : k = l.length := by omega
        subst hkn'
        have hll : l = l' := by
          rw [List.take_of_length_le (Nat.le_refl _), List.take_of_length_le (by omega)] at ht
          exact ht
        have HE := Lib.hid hll
        clear hll ht
        go_wp2_with fail
        go_ret
        exact ⟨by rw [decide_eq_true HE.out]; rfl, hc⟩
  · have hd : decide (l.length = l'.length) = false := by simpa using hlen
    go_enter Tryz.func90, Tryz.ntmps90
    go_wp2_with fail
    go_ret
    exact ⟨by rw [decide_eq_false (fun e => hlen (by rw [e]))]; rfl, Chg.refl _ _⟩

set_option maxHeartbeats 1000000 in
set_option maxRecDepth 20000 in
theorem sameDef_any (A B : Option Addr) (n c m d : Nat) (ns ms : List Int) (tr le tr' le' : Int) (w : World) (hA : Rd w A (ns.map (Value.int .i64))) (hB : Rd w B (ms.map (Value.int .i64))) (hn : ns.length = n) (hm : ms.length = m) (hn2 : n ≤ 1048576) (hm2 : m ≤ 1048576) :
    Calls Tryz.prog 68 #[.agg #[.slice A n c, .int .i64 tr, .int .i64 le], .agg #[.slice B m d, .int .i64 tr', .int .i64 le']] w fun e w' => e = .returned (.bool (decide (ns = ms) && (decide (tr = tr') && decide (le = le')))) ∧ Chg (fun _ => False) w w' := by
  have HA := Lib.hid hA
  have HB := Lib.hid hB
  have HN := Lib.hid hn
  have HM := Lib.hid hm
  obtain ⟨t, ht⟩ : ∃ t, decide (ns = ms) = t := ⟨_, rfl⟩
  rw [ht]
  have HT := Lib.hid ht
  clear hA hB hn hm ht
  have bP := two_P w 85 85 #[.slice A n c, .int .i64 tr, .int .i64 le] #[.slice B m d, .int .i64 tr', .int .i64 le']
  have bE := two_E w 85 85 #[.slice A n c, .int .i64 tr, .int .i64 le] #[.slice B m d, .int .i64 tr', .int .i64 le']
  cases t <;> rcases Classical.em (tr = tr') with rfl | h1 <;> rcases Classical.em (le = le') with rfl | h2
  all_goals
    (try have u1 : (tr == tr') = false := by simpa using h1)
    (try have u2 : decide (tr = tr') = false := by simpa using h1)
    (try have u3 : (le == le') = false := by simpa using h2)
    (try have u4 : decide (le = le') = false := by simpa using h2)
    go_enter Tryz.func68, Tryz.ntmps68
    go_wp2_with (go_at_call 90; go_must (refine (equalI_any A B n m c d ns ms _ ((HA.out.alloc _).alloc _) ((HB.out.alloc _).alloc _) HN.out HM.out hn2 hm2).mono ?_; rintro e w2 ⟨rfl, hc2⟩; rw [HT.out]; have q1 := (bP.keep hc2 (fun h => h)).cell 1 rfl; have q2 := (bP.keep hc2 (fun h => h)).cell 2 rfl; have r1 := (bE.keep hc2 (fun h => h)).cell 1 rfl; have r2 := (bE.keep hc2 (fun h => h)).cell 2 rfl))
    go_ret
    exact ⟨by simp_all, (((Chg.refl _ _).alloc _).alloc _).trans hc2 (fun x hx => hx.elim)⟩
end Go.Proofs.YtngfimjbgopgjaaGreatDoor

/- Contracts of slices.EqualFunc over Defs and of event.Same at any two events. -/
namespace Go.Proofs.YtngfimjbgopgjaaGreatDoor
open Go.RowKit
set_option linter.unusedVariables false

def sameDB (a b : List Int × Int × Int) : Bool := decide (a.1 = b.1) && (decide (a.2.1 = b.2.1) && decide (a.2.2 = b.2.2))
theorem sameDB_iff {a b : List Int × Int × Int} : sameDB a b = true ↔ a = b := by
  obtain ⟨a1, a2, a3⟩ := a
  obtain ⟨b1, b2, b3⟩ := b
  simp [sameDB]

set_option maxHeartbeats 2000000 in
set_option maxRecDepth 20000 in
theorem equalDefs_any (A B : Option Addr) (n m c d : Nat) (l l' : List Df) (w : World) (ha : RdDf w A l) (hb : RdDf w B l') (hn : l.length = n) (hm : l'.length = m) (hn2 : n ≤ 1048576) (hm2 : m ≤ 1048576) (h1 : ∀ d ∈ l, d.ns.length ≤ 1048576) (h2 : ∀ d ∈ l', d.ns.length ≤ 1048576) :
    Calls Tryz.prog 67 #[.slice A n c, .slice B m d, .func (.func 68) #[] #[]] w fun e w' => e = .returned (.bool (decide (l.map Df.v = l'.map Df.v))) ∧ Chg (fun _ => False) w w' := by
  subst hn hm
  have HA := Lib.hid ha
  have HB := Lib.hid hb
  have H1 := Lib.hid h1
  have H2 := Lib.hid h2
  clear ha hb h1 h2
  by_cases hlen : l.length = l'.length
  · have hd : decide (l.length = l'.length) = true := by simpa using hlen
    have hlen2 : (l.length : Int) = (l'.length : Int) := by omega
    have hnq : ((l.length : Int) != (l'.length : Int)) = false := by simp; omega
    have HLEN := Lib.hid hlen
    clear hlen hlen2
    go_enter Tryz.func67, Tryz.ntmps67
    go_wp2_with fail
    go_loopw [17] (fun i wr => ∃ k : Nat, k ≤ l.length ∧ i = .int .i64 k ∧ (l.map Df.v).take k = (l'.map Df.v).take k ∧ Chg (fun _ => False) w wr) (fun i _ => l.length - (intOf i).toNat)
    case atStart => exact ⟨0, by omega, rfl, by simp, Chg.refl _ _⟩
    case round =>
      obtain ⟨k, hk, rfl, ht, hc⟩ := hrel
      have HT := Lib.hid ht
      clear ht
      by_cases hkn : k < l.length
      · have hkm : k < l'.length := by have := HLEN.out; omega
        have hAr := HA.out.still hc
        have hBr := HB.out.still hc
        obtain ⟨b, o, rfl, _⟩ := hAr.rd.at_ (k := 0) (by rw [dfC_len]; omega)
        obtain ⟨b', o', rfl, _⟩ := hBr.rd.at_ (k := 0) (by rw [dfC_len]; omega)
        obtain ⟨p0, p1, p2⟩ := dfC_get l k hkn
        obtain ⟨p0', p1', p2'⟩ := dfC_get l' k hkm
        have r0 := hAr.rd.cells rfl _ _ p0
        have r1 := hAr.rd.cells rfl _ _ p1
        have r2 := hAr.rd.cells rfl _ _ p2
        have s0 := hBr.rd.cells rfl _ _ p0'
        have s1 := hBr.rd.cells rfl _ _ p1'
        have s2 := hBr.rd.cells rfl _ _ p2'
        rw [← Nat.add_assoc] at r1 r2 s1 s2
        have hx := hAr.ns l[k] (List.getElem_mem _)
        have hy := hBr.ns l'[k] (List.getElem_mem _)
        have hxl := H1.out l[k] (List.getElem_mem _)
        have hyl := H2.out l'[k] (List.getElem_mem _)
        have hst : l[k].v = l'[k].v → (l.map Df.v).take (k + 1) = (l'.map Df.v).take (k + 1) := fun e => by
          rw [List.take_add_one, List.take_add_one, HT.out, List.getElem?_map, List.getElem?_map, List.getElem?_eq_getElem hkn, List.getElem?_eq_getElem hkm]
          simp [e]
        have hno : l[k].v ≠ l'[k].v → l.map Df.v ≠ l'.map Df.v := fun hne e => hne (by
          have e2 : (l.map Df.v)[k]? = (l'.map Df.v)[k]? := by rw [e]
          rw [List.getElem?_map, List.getElem?_map, List.getElem?_eq_getElem hkn, List.getElem?_eq_getElem hkm] at e2
          exact Option.some.inj e2)
        have HST := Lib.hid hst
        have HNO := Lib.hid hno
        obtain ⟨x, hxe⟩ : ∃ x, x = l[k] := ⟨_, rfl⟩
        obtain ⟨y, hye⟩ : ∃ y, y = l'[k] := ⟨_, rfl⟩
        rw [← hxe] at r0 r1 r2 hx hxl HST HNO
        rw [← hye] at s0 s1 s2 hy hyl HST HNO
        clear hst hno hxe hye p0 p1 p2 p0' p1' p2'
        obtain ⟨t, ht⟩ : ∃ t, sameDB x.v y.v = t := ⟨_, rfl⟩
        have HTT := Lib.hid ht
        clear ht
        have v0 := ((Chg.refl (fun _ => False) wr).alloc (.cells #[.slice x.A x.ns.length x.c, .int .i64 x.tr, .int .i64 x.le] 85)).cell_some s0 (fun h => h)
        have v1 := ((Chg.refl (fun _ => False) wr).alloc (.cells #[.slice x.A x.ns.length x.c, .int .i64 x.tr, .int .i64 x.le] 85)).cell_some s1 (fun h => h)
        have v2 := ((Chg.refl (fun _ => False) wr).alloc (.cells #[.slice x.A x.ns.length x.c, .int .i64 x.tr, .int .i64 x.le] 85)).cell_some s2 (fun h => h)
        have j0 : (0 : Int) ≤ (k : Int) := by omega
        have j1 : (k : Int) < (l.length : Int) := by omega
        have j2 : (k : Int) < (l'.length : Int) := by omega
        have hcall := fun w' (g1 : Rd w' x.A (x.ns.map (Value.int .i64))) (g2 : Rd w' y.A (y.ns.map (Value.int .i64))) => sameDef_any x.A y.A x.ns.length x.c y.ns.length y.c x.ns y.ns x.tr x.le y.tr y.le w' g1 g2 rfl rfl hxl hyl
        rw [show (decide (x.ns = y.ns) && (decide (x.tr = y.tr) && decide (x.le = y.le))) = sameDB x.v y.v from rfl] at hcall
        cases t
        · go_wp2_with (go_at_call 68; go_must (refine (hcall _ ((hx.alloc _).alloc _) ((hy.alloc _).alloc _)).mono ?_; rintro e w2 ⟨rfl, hc2⟩; rw [HTT.out]))
          go_ret
          have hne : x.v ≠ y.v := fun e => by
            have h3 := HTT.out
            rw [sameDB_iff.2 e] at h3
            exact Bool.noConfusion h3
          exact ⟨by rw [decide_eq_false (HNO.out hne)]; rfl, ((hc.alloc _).alloc _).trans hc2 (fun x hx => hx.elim)⟩
        · go_wp2_with (go_at_call 68; go_must (refine (hcall _ ((hx.alloc _).alloc _) ((hy.alloc _).alloc _)).mono ?_; rintro e w2 ⟨rfl, hc2⟩; rw [HTT.out]))
          go_roundw
          case rel => exact ⟨k + 1, by omega, by go_num, HST.out (sameDB_iff.1 HTT.out), ((hc.alloc _).alloc _).trans hc2 (fun x hx => hx.elim)⟩
          case measure => simp [intOf]; omega
      · have hkn' : k = l.length := by omega
        have hll : l.map Df.v = l'.map Df.v := by
          have h3 := HT.out
          rw [hkn', List.take_of_length_le (by simp), List.take_of_length_le (by rw [List.length_map, HLEN.out]; exact Nat.le_refl _)] at h3
          exact h3
        have HE := Lib.hid hll
        clear hll
        go_wp2_with fail
        go_ret
        exact ⟨by rw [decide_eq_true HE.out]; rfl, hc⟩
  · have hd : decide (l.length = l'.length) = false := by simpa using hlen
    have hnq : ((l.length : Int) != (l'.length : Int)) = true := by simp; omega
    go_enter Tryz.func67, Tryz.ntmps67
    go_wp2_with fail
    go_ret
    exact ⟨by rw [decide_eq_false (fun e => hlen (by simpa using congrArg List.length e))]; rfl, Chg.refl _ _⟩
end Go.Proofs.YtngfimjbgopgjaaGreatDoor

/- Contract of event.Same at any two events (gen_evsame.py). -/
namespace Go.Proofs.YtngfimjbgopgjaaGreatDoor
open Go.RowKit
set_option linter.unusedVariables false

set_option maxHeartbeats 4000000 in
set_option maxRecDepth 20000 in
theorem sameG_any (id ver tm ty node m : Int) (nm : ByteArray) (A : Option Addr) (n c : Nat) (bs : List Int) (D : Option Addr) (dn dc : Nat) (dl : List Df) (id' ver' tm' ty' node' m' : Int) (nm' : ByteArray) (B : Option Addr) (n' c' : Nat) (bs' : List Int) (E : Option Addr) (dn' dc' : Nat) (dl' : List Df) (w : World)
    (hA : Rd w A (bs.map (Value.int .u8))) (hB : Rd w B (bs'.map (Value.int .u8))) (hn : bs.length = n) (hn' : bs'.length = n') (hl : n ≤ 1048576) (hl' : n' ≤ 1048576) (hD : RdDf w D dl) (hE : RdDf w E dl') (hdn : dl.length = dn) (hdn' : dl'.length = dn') (hdl : dn ≤ 1048576) (hdl' : dn' ≤ 1048576) (h1 : ∀ d ∈ dl, d.ns.length ≤ 1048576) (h2 : ∀ d ∈ dl', d.ns.length ≤ 1048576) :
    Calls Tryz.prog 32 #[.agg #[.int .i64 id, .int .i64 ver, .int .i64 tm, .int .i64 ty, .int .i64 node, .int .i64 m, .string nm, .slice A n c, .slice D dn dc], .agg #[.int .i64 id', .int .i64 ver', .int .i64 tm', .int .i64 ty', .int .i64 node', .int .i64 m', .string nm', .slice B n' c', .slice E dn' dc']] w fun e w' => e = .returned (.bool (decide (id = id') && (decide (ver = ver') && (decide (tm = tm') && (decide (ty = ty') && (decide (node = node') && (decide (m = m') && (decide (nm = nm') && (decide (bs = bs') && (decide (dl.map Df.v = dl'.map Df.v))))))))))) ∧ Chg (fun _ => False) w w' := by
  have HN := Lib.hid hn
  have HN' := Lib.hid hn'
  have HDN := Lib.hid hdn
  have HDN' := Lib.hid hdn'
  clear hn hn' hdn hdn'
  have bP := two_P w 32 32 #[.int .i64 id, .int .i64 ver, .int .i64 tm, .int .i64 ty, .int .i64 node, .int .i64 m, .string nm, .slice A n c, .slice D dn dc] #[.int .i64 id', .int .i64 ver', .int .i64 tm', .int .i64 ty', .int .i64 node', .int .i64 m', .string nm', .slice B n' c', .slice E dn' dc']
  have bE := two_E w 32 32 #[.int .i64 id, .int .i64 ver, .int .i64 tm, .int .i64 ty, .int .i64 node, .int .i64 m, .string nm, .slice A n c, .slice D dn dc] #[.int .i64 id', .int .i64 ver', .int .i64 tm', .int .i64 ty', .int .i64 node', .int .i64 m', .string nm', .slice B n' c', .slice E dn' dc']
  have hc0 : Chg (fun _ => False) w ((w.alloc (.cells #[.int .i64 id, .int .i64 ver, .int .i64 tm, .int .i64 ty, .int .i64 node, .int .i64 m, .string nm, .slice A n c, .slice D dn dc] 32)).alloc (.cells #[.int .i64 id', .int .i64 ver', .int .i64 tm', .int .i64 ty', .int .i64 node', .int .i64 m', .string nm', .slice B n' c', .slice E dn' dc'] 32)) := ((Chg.refl _ _).alloc _).alloc _
  have hA1 := (hA.alloc (.cells #[.int .i64 id, .int .i64 ver, .int .i64 tm, .int .i64 ty, .int .i64 node, .int .i64 m, .string nm, .slice A n c, .slice D dn dc] 32)).alloc (.cells #[.int .i64 id', .int .i64 ver', .int .i64 tm', .int .i64 ty', .int .i64 node', .int .i64 m', .string nm', .slice B n' c', .slice E dn' dc'] 32)
  have hB1 := (hB.alloc (.cells #[.int .i64 id, .int .i64 ver, .int .i64 tm, .int .i64 ty, .int .i64 node, .int .i64 m, .string nm, .slice A n c, .slice D dn dc] 32)).alloc (.cells #[.int .i64 id', .int .i64 ver', .int .i64 tm', .int .i64 ty', .int .i64 node', .int .i64 m', .string nm', .slice B n' c', .slice E dn' dc'] 32)
  have hD1 := hD.still hc0
  have hE1 := hE.still hc0
  obtain ⟨t8, e8⟩ : ∃ t, decide (bs = bs') = t := ⟨_, rfl⟩
  obtain ⟨t9, e9⟩ : ∃ t, decide (dl.map Df.v = dl'.map Df.v) = t := ⟨_, rfl⟩
  rw [e8, e9]
  have E8 := Lib.hid e8
  have E9 := Lib.hid e9
  clear e8 e9
  by_cases h_id : id = id'
  · subst h_id
    by_cases h_ver : ver = ver'
    · subst h_ver
      by_cases h_tm : tm = tm'
      · subst h_tm
        by_cases h_ty : ty = ty'
        · subst h_ty
          by_cases h_node : node = node'
          · subst h_node
            by_cases h_m : m = m'
            · subst h_m
              by_cases h_nm : nm = nm'
              · subst h_nm
                cases t8
                · go_enter Tryz.func32, Tryz.ntmps32
                  go_wp2_with (first
                    | (go_at_call 67; go_must (refine (equalDefs_any D E dn dn' dc dc' dl dl' _ (hD1.still hc2) (hE1.still hc2) HDN.out HDN'.out hdl hdl' h1 h2).mono ?_; rintro e w3 ⟨rfl, hc3⟩; rw [E9.out]))
                    | (go_at_call 37; go_must (refine (equalB_any A B n n' c c' bs bs' _ hA1 hB1 HN.out HN'.out hl hl').mono ?_; rintro e w2 ⟨rfl, hc2⟩; rw [E8.out]; have q8 := (bP.keep hc2 (fun h => h)).cell 8 rfl; have r8 := (bE.keep hc2 (fun h => h)).cell 8 rfl)))
                  go_ret
                  exact ⟨by simp_all, hc0.trans hc2 (fun x hx => hx.elim)⟩
                · go_enter Tryz.func32, Tryz.ntmps32
                  go_wp2_with (first
                    | (go_at_call 67; go_must (refine (equalDefs_any D E dn dn' dc dc' dl dl' _ (hD1.still hc2) (hE1.still hc2) HDN.out HDN'.out hdl hdl' h1 h2).mono ?_; rintro e w3 ⟨rfl, hc3⟩; rw [E9.out]))
                    | (go_at_call 37; go_must (refine (equalB_any A B n n' c c' bs bs' _ hA1 hB1 HN.out HN'.out hl hl').mono ?_; rintro e w2 ⟨rfl, hc2⟩; rw [E8.out]; have q8 := (bP.keep hc2 (fun h => h)).cell 8 rfl; have r8 := (bE.keep hc2 (fun h => h)).cell 8 rfl)))
                  go_ret
                  exact ⟨by simp_all, (hc0.trans hc2 (fun x hx => hx.elim)).trans hc3 (fun x hx => hx.elim)⟩
              · have u1 : decide (nm = nm') = false := by simpa using h_nm
                (try have u2 : (nm == nm') = false := by simpa using h_nm)
                have u3 : nm.toList ≠ nm'.toList := fun e => h_nm (by rw [ByteArray.toList_eq, ByteArray.toList_eq] at e; cases nm; cases nm'; simpa using e)
                have u4 : (nm.toList == nm'.toList) = false := by simpa using u3
                go_enter Tryz.func32, Tryz.ntmps32
                go_wp2_with (first
                  | (go_at_call 67; go_must (refine (equalDefs_any D E dn dn' dc dc' dl dl' _ (hD1.still hc2) (hE1.still hc2) HDN.out HDN'.out hdl hdl' h1 h2).mono ?_; rintro e w3 ⟨rfl, hc3⟩; rw [E9.out]))
                  | (go_at_call 37; go_must (refine (equalB_any A B n n' c c' bs bs' _ hA1 hB1 HN.out HN'.out hl hl').mono ?_; rintro e w2 ⟨rfl, hc2⟩; rw [E8.out]; have q8 := (bP.keep hc2 (fun h => h)).cell 8 rfl; have r8 := (bE.keep hc2 (fun h => h)).cell 8 rfl)))
                go_ret
                exact ⟨by simp_all, hc0⟩
            · have u1 : (m == m') = false := by simpa using h_m
              have u2 : decide (m = m') = false := by simpa using h_m
              go_enter Tryz.func32, Tryz.ntmps32
              go_wp2_with (first
                | (go_at_call 67; go_must (refine (equalDefs_any D E dn dn' dc dc' dl dl' _ (hD1.still hc2) (hE1.still hc2) HDN.out HDN'.out hdl hdl' h1 h2).mono ?_; rintro e w3 ⟨rfl, hc3⟩; rw [E9.out]))
                | (go_at_call 37; go_must (refine (equalB_any A B n n' c c' bs bs' _ hA1 hB1 HN.out HN'.out hl hl').mono ?_; rintro e w2 ⟨rfl, hc2⟩; rw [E8.out]; have q8 := (bP.keep hc2 (fun h => h)).cell 8 rfl; have r8 := (bE.keep hc2 (fun h => h)).cell 8 rfl)))
              go_ret
              exact ⟨by simp_all, hc0⟩
          · have u1 : (node == node') = false := by simpa using h_node
            have u2 : decide (node = node') = false := by simpa using h_node
            go_enter Tryz.func32, Tryz.ntmps32
            go_wp2_with (first
              | (go_at_call 67; go_must (refine (equalDefs_any D E dn dn' dc dc' dl dl' _ (hD1.still hc2) (hE1.still hc2) HDN.out HDN'.out hdl hdl' h1 h2).mono ?_; rintro e w3 ⟨rfl, hc3⟩; rw [E9.out]))
              | (go_at_call 37; go_must (refine (equalB_any A B n n' c c' bs bs' _ hA1 hB1 HN.out HN'.out hl hl').mono ?_; rintro e w2 ⟨rfl, hc2⟩; rw [E8.out]; have q8 := (bP.keep hc2 (fun h => h)).cell 8 rfl; have r8 := (bE.keep hc2 (fun h => h)).cell 8 rfl)))
            go_ret
            exact ⟨by simp_all, hc0⟩
        · have u1 : (ty == ty') = false := by simpa using h_ty
          have u2 : decide (ty = ty') = false := by simpa using h_ty
          go_enter Tryz.func32, Tryz.ntmps32
          go_wp2_with (first
            | (go_at_call 67; go_must (refine (equalDefs_any D E dn dn' dc dc' dl dl' _ (hD1.still hc2) (hE1.still hc2) HDN.out HDN'.out hdl hdl' h1 h2).mono ?_; rintro e w3 ⟨rfl, hc3⟩; rw [E9.out]))
            | (go_at_call 37; go_must (refine (equalB_any A B n n' c c' bs bs' _ hA1 hB1 HN.out HN'.out hl hl').mono ?_; rintro e w2 ⟨rfl, hc2⟩; rw [E8.out]; have q8 := (bP.keep hc2 (fun h => h)).cell 8 rfl; have r8 := (bE.keep hc2 (fun h => h)).cell 8 rfl)))
          go_ret
          exact ⟨by simp_all, hc0⟩
      · have u1 : (tm == tm') = false := by simpa using h_tm
        have u2 : decide (tm = tm') = false := by simpa using h_tm
        go_enter Tryz.func32, Tryz.ntmps32
        go_wp2_with (first
          | (go_at_call 67; go_must (refine (equalDefs_any D E dn dn' dc dc' dl dl' _ (hD1.still hc2) (hE1.still hc2) HDN.out HDN'.out hdl hdl' h1 h2).mono ?_; rintro e w3 ⟨rfl, hc3⟩; rw [E9.out]))
          | (go_at_call 37; go_must (refine (equalB_any A B n n' c c' bs bs' _ hA1 hB1 HN.out HN'.out hl hl').mono ?_; rintro e w2 ⟨rfl, hc2⟩; rw [E8.out]; have q8 := (bP.keep hc2 (fun h => h)).cell 8 rfl; have r8 := (bE.keep hc2 (fun h => h)).cell 8 rfl)))
        go_ret
        exact ⟨by simp_all, hc0⟩
    · have u1 : (ver == ver') = false := by simpa using h_ver
      have u2 : decide (ver = ver') = false := by simpa using h_ver
      go_enter Tryz.func32, Tryz.ntmps32
      go_wp2_with (first
        | (go_at_call 67; go_must (refine (equalDefs_any D E dn dn' dc dc' dl dl' _ (hD1.still hc2) (hE1.still hc2) HDN.out HDN'.out hdl hdl' h1 h2).mono ?_; rintro e w3 ⟨rfl, hc3⟩; rw [E9.out]))
        | (go_at_call 37; go_must (refine (equalB_any A B n n' c c' bs bs' _ hA1 hB1 HN.out HN'.out hl hl').mono ?_; rintro e w2 ⟨rfl, hc2⟩; rw [E8.out]; have q8 := (bP.keep hc2 (fun h => h)).cell 8 rfl; have r8 := (bE.keep hc2 (fun h => h)).cell 8 rfl)))
      go_ret
      exact ⟨by simp_all, hc0⟩
  · have u1 : (id == id') = false := by simpa using h_id
    have u2 : decide (id = id') = false := by simpa using h_id
    go_enter Tryz.func32, Tryz.ntmps32
    go_wp2_with (first
      | (go_at_call 67; go_must (refine (equalDefs_any D E dn dn' dc dc' dl dl' _ (hD1.still hc2) (hE1.still hc2) HDN.out HDN'.out hdl hdl' h1 h2).mono ?_; rintro e w3 ⟨rfl, hc3⟩; rw [E9.out]))
      | (go_at_call 37; go_must (refine (equalB_any A B n n' c c' bs bs' _ hA1 hB1 HN.out HN'.out hl hl').mono ?_; rintro e w2 ⟨rfl, hc2⟩; rw [E8.out]; have q8 := (bP.keep hc2 (fun h => h)).cell 8 rfl; have r8 := (bE.keep hc2 (fun h => h)).cell 8 rfl)))
    go_ret
    exact ⟨by simp_all, hc0⟩
end Go.Proofs.YtngfimjbgopgjaaGreatDoor
