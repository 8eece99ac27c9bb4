/- Contracts of slices.EqualFunc over Defs and of event.Same at any two events. -/
import Derived.Test.YtngfimjbgopgjaaDoorEvSameG
namespace Go.Proofs.YtngfimjbgopgjaaDoor
open Go.RowKit
set_option linter.unusedVariables false

def sameDB (a b : List Int × Int × Int) : Bool := decide (a.1 = b.1) && (decide (a.2.1 = b.2.1) && decide (a.2.2 = b.2.2))
theorem sameDB_iff {a b : List Int × Int × Int} : sameDB a b = true ↔ a = b := by
  obtain ⟨a1, a2, a3⟩ := a
  obtain ⟨b1, b2, b3⟩ := b
  simp [sameDB]

set_option maxHeartbeats 2000000 in
set_option maxRecDepth 20000 in
theorem equalDefs_any (A B : Option Addr) (n m c d : Nat) (l l' : List Df) (w : World) (ha : RdDf w A l) (hb : RdDf w B l') (hn : l.length = n) (hm : l'.length = m) (hn2 : n ≤ 1048576) (hm2 : m ≤ 1048576) (h1 : ∀ d ∈ l, d.ns.length ≤ 1048576) (h2 : ∀ d ∈ l', d.ns.length ≤ 1048576) :
    Calls Tryd.prog 67 #[.slice A n c, .slice B m d, .func (.func 68) #[] #[]] w fun e w' => e = .returned (.bool (decide (l.map Df.v = l'.map Df.v))) ∧ Chg (fun _ => False) w w' := by
  subst hn hm
  have HA := Lib.hid ha
  have HB := Lib.hid hb
  have H1 := Lib.hid h1
  have H2 := Lib.hid h2
  clear ha hb h1 h2
  by_cases hlen : l.length = l'.length
  · have hd : decide (l.length = l'.length) = true := by simpa using hlen
    have hlen2 : (l.length : Int) = (l'.length : Int) := by omega
    have hnq : ((l.length : Int) != (l'.length : Int)) = false := by simp; omega
    have HLEN := Lib.hid hlen
    clear hlen hlen2
    go_enter Tryd.func67, Tryd.ntmps67
    go_wp2_with fail
    go_loopw [17] (fun i wr => ∃ k : Nat, k ≤ l.length ∧ i = .int .i64 k ∧ (l.map Df.v).take k = (l'.map Df.v).take k ∧ Chg (fun _ => False) w wr) (fun i _ => l.length - (intOf i).toNat)
    case atStart => exact ⟨0, by omega, rfl, by simp, Chg.refl _ _⟩
    case round =>
      obtain ⟨k, hk, rfl, ht, hc⟩ := hrel
      have HT := Lib.hid ht
      clear ht
      by_cases hkn : k < l.length
      · have hkm : k < l'.length := by have := HLEN.out; omega
        have hAr := HA.out.still hc
        have hBr := HB.out.still hc
        obtain ⟨b, o, rfl, _⟩ := hAr.rd.at_ (k := 0) (by rw [dfC_len]; omega)
        obtain ⟨b', o', rfl, _⟩ := hBr.rd.at_ (k := 0) (by rw [dfC_len]; omega)
        obtain ⟨p0, p1, p2⟩ := dfC_get l k hkn
        obtain ⟨p0', p1', p2'⟩ := dfC_get l' k hkm
        have r0 := hAr.rd.cells rfl _ _ p0
        have r1 := hAr.rd.cells rfl _ _ p1
        have r2 := hAr.rd.cells rfl _ _ p2
        have s0 := hBr.rd.cells rfl _ _ p0'
        have s1 := hBr.rd.cells rfl _ _ p1'
        have s2 := hBr.rd.cells rfl _ _ p2'
        rw [← Nat.add_assoc] at r1 r2 s1 s2
        have hx := hAr.ns l[k] (List.getElem_mem _)
        have hy := hBr.ns l'[k] (List.getElem_mem _)
        have hxl := H1.out l[k] (List.getElem_mem _)
        have hyl := H2.out l'[k] (List.getElem_mem _)
        have hst : l[k].v = l'[k].v → (l.map Df.v).take (k + 1) = (l'.map Df.v).take (k + 1) := fun e => by
          rw [List.take_add_one, List.take_add_one, HT.out, List.getElem?_map, List.getElem?_map, List.getElem?_eq_getElem hkn, List.getElem?_eq_getElem hkm]
          simp [e]
        have hno : l[k].v ≠ l'[k].v → l.map Df.v ≠ l'.map Df.v := fun hne e => hne (by
          have e2 : (l.map Df.v)[k]? = (l'.map Df.v)[k]? := by rw [e]
          rw [List.getElem?_map, List.getElem?_map, List.getElem?_eq_getElem hkn, List.getElem?_eq_getElem hkm] at e2
          exact Option.some.inj e2)
        have HST := Lib.hid hst
        have HNO := Lib.hid hno
        obtain ⟨x, hxe⟩ : ∃ x, x = l[k] := ⟨_, rfl⟩
        obtain ⟨y, hye⟩ : ∃ y, y = l'[k] := ⟨_, rfl⟩
        rw [← hxe] at r0 r1 r2 hx hxl HST HNO
        rw [← hye] at s0 s1 s2 hy hyl HST HNO
        clear hst hno hxe hye p0 p1 p2 p0' p1' p2'
        obtain ⟨t, ht⟩ : ∃ t, sameDB x.v y.v = t := ⟨_, rfl⟩
        have HTT := Lib.hid ht
        clear ht
        have v0 := ((Chg.refl (fun _ => False) wr).alloc (.cells #[.slice x.A x.ns.length x.c, .int .i64 x.tr, .int .i64 x.le] 49)).cell_some s0 (fun h => h)
        have v1 := ((Chg.refl (fun _ => False) wr).alloc (.cells #[.slice x.A x.ns.length x.c, .int .i64 x.tr, .int .i64 x.le] 49)).cell_some s1 (fun h => h)
        have v2 := ((Chg.refl (fun _ => False) wr).alloc (.cells #[.slice x.A x.ns.length x.c, .int .i64 x.tr, .int .i64 x.le] 49)).cell_some s2 (fun h => h)
        have j0 : (0 : Int) ≤ (k : Int) := by omega
        have j1 : (k : Int) < (l.length : Int) := by omega
        have j2 : (k : Int) < (l'.length : Int) := by omega
        have hcall := fun w' (g1 : Rd w' x.A (x.ns.map (Value.int .i64))) (g2 : Rd w' y.A (y.ns.map (Value.int .i64))) => sameDef_any x.A y.A x.ns.length x.c y.ns.length y.c x.ns y.ns x.tr x.le y.tr y.le w' g1 g2 rfl rfl hxl hyl
        rw [show (decide (x.ns = y.ns) && (decide (x.tr = y.tr) && decide (x.le = y.le))) = sameDB x.v y.v from rfl] at hcall
        cases t
        · go_wp2_with (go_at_call 68; go_must (refine (hcall _ ((hx.alloc _).alloc _) ((hy.alloc _).alloc _)).mono ?_; rintro e w2 ⟨rfl, hc2⟩; rw [HTT.out]))
          go_ret
          have hne : x.v ≠ y.v := fun e => by
            have h3 := HTT.out
            rw [sameDB_iff.2 e] at h3
            exact Bool.noConfusion h3
          exact ⟨by rw [decide_eq_false (HNO.out hne)]; rfl, ((hc.alloc _).alloc _).trans hc2 (fun x hx => hx.elim)⟩
        · go_wp2_with (go_at_call 68; go_must (refine (hcall _ ((hx.alloc _).alloc _) ((hy.alloc _).alloc _)).mono ?_; rintro e w2 ⟨rfl, hc2⟩; rw [HTT.out]))
          go_roundw
          case rel => exact ⟨k + 1, by omega, by go_num, HST.out (sameDB_iff.1 HTT.out), ((hc.alloc _).alloc _).trans hc2 (fun x hx => hx.elim)⟩
          case measure => simp [intOf]; omega
      · have hkn' : k = l.length := by omega
        have hll : l.map Df.v = l'.map Df.v := by
          have h3 := HT.out
          rw [hkn', List.take_of_length_le (by simp), List.take_of_length_le (by rw [List.length_map, HLEN.out]; exact Nat.le_refl _)] at h3
          exact h3
        have HE := Lib.hid hll
        clear hll
        go_wp2_with fail
        go_ret
        exact ⟨by rw [decide_eq_true HE.out]; rfl, hc⟩
  · have hd : decide (l.length = l'.length) = false := by simpa using hlen
    have hnq : ((l.length : Int) != (l'.length : Int)) = true := by simp; omega
    go_enter Tryd.func67, Tryd.ntmps67
    go_wp2_with fail
    go_ret
    exact ⟨by rw [decide_eq_false (fun e => hlen (by simpa using congrArg List.length e))]; rfl, Chg.refl _ _⟩
end Go.Proofs.YtngfimjbgopgjaaDoor
