/- Contracts of slices.Equal over bytes, and of items.Read at the bytes of two items. -/
import Derived.Test.YtngfimjbgopgjaaItLay
import Derived.Test.YtngfimjbgopgjaaEv
namespace Go.Proofs.Ytngfimjbgopgjaa
open Go.RowKit
set_option linter.unusedVariables false

set_option maxHeartbeats 1000000 in
theorem equalB_any (A B : Option Addr) (n m c d : Nat) (l l' : List Int) (w : World) (ha : Rd w A (l.map (Value.int .u8))) (hb : Rd w B (l'.map (Value.int .u8))) (hn : l.length = n) (hm : l'.length = m) (hn2 : n ≤ 1048576) (hm2 : m ≤ 1048576) :
    Calls Try.prog 116 #[.slice A n c, .slice B m d] w fun e w' => e = .returned (.bool (decide (l = l'))) ∧ Chg (fun _ => False) w w' := by
  subst hn hm
  have HA := Lib.hid ha
  have HB := Lib.hid hb
  clear ha hb
  by_cases hlen : l.length = l'.length
  · have hd : decide (l.length = l'.length) = true := by simpa using hlen
    go_enter Try.func116, Try.ntmps116
    go_wp2_with fail
    go_loopw [13] (fun i wr => ∃ k : Nat, k ≤ l.length ∧ i = .int .i64 k ∧ l.take k = l'.take k ∧ Chg (fun _ => False) w wr) (fun i _ => l.length - (intOf i).toNat)
    case atStart => exact ⟨0, by omega, rfl, by simp, Chg.refl _ _⟩
    case round =>
      obtain ⟨k, hk, rfl, ht, hc⟩ := hrel
      by_cases hkn : k < l.length
      · have hkm : k < l'.length := by omega
        obtain ⟨b, o, rfl, hq⟩ := (HA.out.keep hc (fun _ _ h => h)).at_ (k := k) (by simpa using hkn)
        obtain ⟨b', o', rfl, hq'⟩ := (HB.out.keep hc (fun _ _ h => h)).at_ (k := k) (by simpa using hkm)
        rw [List.getElem_map] at hq hq'
        obtain ⟨x, hx⟩ : ∃ x, x = l[k] := ⟨_, rfl⟩
        obtain ⟨y, hy⟩ : ∃ y, y = l'[k] := ⟨_, rfl⟩
        rw [← hx] at hq
        rw [← hy] at hq'
        have HX := Lib.hid hx
        have HY := Lib.hid hy
        have HT := Lib.hid ht
        clear hx hy ht
        by_cases hxy : x = y
        · subst hxy
          have hb : (x != x) = false := by simp
          go_wp2_with fail
          go_quiet (fail)
          go_wp2_with fail
          go_roundw
          case rel => exact ⟨k + 1, by omega, by go_num, by rw [List.take_add_one, List.take_add_one, HT.out, List.getElem?_eq_getElem hkn, List.getElem?_eq_getElem hkm, ← HX.out, ← HY.out], hc.drewN _⟩
          case measure => simp [intOf]; omega
        · have hne : l ≠ l' := by
            intro e
            subst e
            exact hxy (HX.out.trans HY.out.symm)
          have HE := Lib.hid hne
          have hb : (x != y) = true := by simpa using hxy
          have hb2 : decide (x = y) = false := by simpa using hxy
          clear hne
          go_wp2_with fail
          go_quiet (fail)
          go_wp2_with fail
          go_ret
          exact ⟨by rw [decide_eq_false HE.out]; rfl, hc.drewN _⟩
      · have hkn' : k = l.length := by omega
        subst hkn'
        have hll : l = l' := by
          rw [List.take_of_length_le (Nat.le_refl _), List.take_of_length_le (by omega)] at ht
          exact ht
        have HE := Lib.hid hll
        clear hll ht
        go_wp2_with fail
        go_ret
        exact ⟨by rw [decide_eq_true HE.out]; rfl, hc⟩
  · have hd : decide (l.length = l'.length) = false := by simpa using hlen
    go_enter Try.func116, Try.ntmps116
    go_wp2_with fail
    go_ret
    exact ⟨by rw [decide_eq_false (fun e => hlen (by rw [e]))]; rfl, Chg.refl _ _⟩

/-- The two items of chapter 9's example, and their bytes. -/
def exL : List It := [(3, 1), (5, 12)]
def exB : List Int := [0, 2, 0, 3, 0, 0, 0, 0, 0, 0, 0, 1, 0, 5, 0, 0, 0, 0, 0, 0, 0, 12]
theorem exL_lay : layB exL = exB := by simp [layB, itB, exL, exB, be, IntKind.wrap_u64]
/-- What is left behind the first k items. -/
def exR (t : List Int) (k : Nat) : List Int := (exB ++ t).drop (2 + 10 * k)
theorem ex_nums (t : List Int) (ht : t = [] ∨ t = [0]) : numR false (exB ++ t) 2 = (2, false, exR t 0) ∧
    ∀ k, k < 2 → numR false (exR t k) 2 = ((exL.getD k (0, 0)).1, false, (exR t k).drop 2) ∧ numR false ((exR t k).drop 2) 8 = ((exL.getD k (0, 0)).2, false, exR t (k + 1)) := by
  rcases ht with rfl | rfl
  · refine ⟨by kernel_rfl, fun k hk => ?_⟩
    match k, hk with
    | 0, _ => exact ⟨by kernel_rfl, by kernel_rfl⟩
    | 1, _ => exact ⟨by kernel_rfl, by kernel_rfl⟩
  · refine ⟨by kernel_rfl, fun k hk => ?_⟩
    match k, hk with
    | 0, _ => exact ⟨by kernel_rfl, by kernel_rfl⟩
    | 1, _ => exact ⟨by kernel_rfl, by kernel_rfl⟩
theorem exL_right : rightL exL = true := by kernel_rfl
theorem exB_byt : ∀ x ∈ exB, 0 ≤ x ∧ x ≤ 255 := by decide

set_option maxHeartbeats 2000000 in
set_option maxRecDepth 20000 in
theorem read_ex (B : Option Addr) (n d : Nat) (t : List Int) (ht : t = [] ∨ t = [0]) (w : World) (h : Rd w B ((exB ++ t).map (Value.int .u8))) (hn : (exB ++ t).length = n) :
    Calls Try.prog 90 #[.slice B n d] w fun e w' => (∃ A c, e = .returned (.tuple #[.slice A (if t = [] then 2 else 0) c, .int .i64 (if t = [] then 0 else 5)])) ∧ Chg (fun _ => False) w w' := by
  obtain ⟨i0, hi, hz0, hz1, hz2⟩ := info_parts itemInfo
  obtain ⟨x1, x2⟩ := ex_nums t ht
  have X1 := Lib.hid x1
  have X2 := Lib.hid x2
  have HB := Lib.hid h
  have HN := Lib.hid hn
  have hn2 : n ≤ 100 := by rw [← hn]; rcases ht with rfl | rfl <;> decide
  have hby : ∀ x ∈ exB ++ t, 0 ≤ x ∧ x ≤ 255 := by
    intro x hx
    rcases List.mem_append.1 hx with hx | hx
    · exact exB_byt x hx
    · rcases ht with rfl | rfl
      · cases hx
      · simp only [List.mem_singleton] at hx; subst hx; omega
  clear x1 x2 h hn
  go_enter Try.func90, Try.ntmps90
  go_wp2_with (first
    | (go_at_call 51; go_must (refine (newR_any B d n (exB ++ t) w HB.out HN.out (by omega) hby).mono ?_; rintro e w1 ⟨p, A1, c1, rfl, r1, hA1, hp, hc1⟩))
    | (go_at_call 54; go_must (refine (gu16_any p A1 c1 false (exB ++ t) w1 r1).mono ?_; rintro e w2 ⟨rfl, A2, c2, r2, hb2, hd2⟩; rw [X1.out] at r2; rw [X1.out])))
  have hc2 : Chg (fun _ => False) w w2 := hc1.trans hd2 (fun x hx => .inr (by rw [hx]; exact hp))
  have hA2 : ∀ x, blk A2 = some x → w.heap.size ≤ x := fun x hx => by rcases hb2 with e | e; exact hA1 x (by rw [← e]; exact hx); rw [e] at hx; cases hx
  clear r1 hc1 hd2 hA1 hb2
  go_loopw [5, 6] (fun a i wr => ∃ k : Nat, k ≤ 2 ∧ i = .int .i64 (2 - (k : Int)) ∧ ∃ (A : Option Addr) (c : Nat) (Ar : Option Addr) (cr : Nat), a = .slice A k c ∧ wr.ownsRow w.heap.size 75 2 (.slice A k c) k (itC (exL.take k)) ∧ RAt 112 wr p Ar cr false (exR t k) ∧ (∀ x, In A x → x ≠ p ∧ blk Ar ≠ some x) ∧ Chg (fun _ => False) w wr) (fun _ i _ => (intOf i).toNat)
  case atStart => exact ⟨0, by omega, rfl, none, 0, A2, c2, rfl, World.ownsRow_nil _ _ _ _, r2, (by intro x hx; cases hx), hc2⟩
  case round =>
    clear r2 hc2 hA2
    obtain ⟨k, hk, rfl, A, c, Ar, cr, rfl, ho, hr, hap, hc⟩ := hrel
    by_cases hk2 : k < 2
    · obtain ⟨y1, y2⟩ := X2.out k hk2
      obtain ⟨x, hx⟩ : ∃ x, x = exL.getD k (0, 0) := ⟨_, rfl⟩
      rw [← hx] at y1 y2
      have hsn : Hid (itC (exL.take (k + 1)) = itC (exL.take k) ++ itC [x]) := Lib.hid (by
        rw [← itC_app, hx]
        match k, hk2 with
        | 0, _ => rfl
        | 1, _ => rfl)
      have Y1 := Lib.hid y1
      have Y2 := Lib.hid y2
      clear hx y1 y2
      have hl1 : k + 1 ≤ maxLen := by simp only [maxLen]; omega
      have hl2 : (k + 1) * 16 ≤ 140737488355328 := by omega
      have g0 : (0 : Int) < 2 - (k : Int) := by omega
      go_wp2_with (first
        | (go_at_call 55; go_must (refine (lack_any p Ar cr false _ wr hr).mono ?_; rintro e w' ⟨rfl, rfl⟩))
        | (go_at_call 54; go_must (refine (gu16_any p Ar cr false _ wr hr).mono ?_; rintro e w3 ⟨rfl, A3, c3, r3, hb3, hd3⟩; rw [Y1.out] at r3; rw [Y1.out]))
        | (go_at_call 52; go_must (refine (gu64_any p A3 c3 false _ w3 r3).mono ?_; rintro e w4 ⟨rfl, A4, c4, r4, hb4, hd4⟩; rw [Y2.out] at r4; rw [Y2.out]; have hd34 : Chg (· = p) wr w4 := hd3.trans hd4 (fun y hy => .inl hy); have ho4 : w4.ownsRow w.heap.size 75 2 (.slice A k c) k (itC (exL.take k)) := hd34.own ho (fun y hy e => by rw [ownBlock_slice] at hy; exact (hap y hy).1 e); have hc4 : Chg (fun _ => False) w w4 := hc.trans hd34 (fun y hy => .inr (by rw [hy]; exact hp)); have hbase : w.heap.size ≤ (w4.alloc (.cells #[.int .i64 x.1, .int .i64 x.2] 75)).heap.size := (by have := hc4.size; simp; omega)))
        | (at_builtin; refine wpList_append_rd _ rfl (.tmp 22) (.tmp 28) 52 rfl w.heap.size 75 i0 _ 2 16 Try.underlying52 hi hz0 hz1 hz2 rfl (by decide) A k c (itC (exL.take k)) rfl (World.ownsRow.alloc ho4 _) (some ⟨w4.heap.size, 0, none⟩) 1 1 (itC [x]) rfl rfl (Rd.newRow w4 _ _ _ rfl) (itC_one _) hl1 hl2 hbase ?_; intro A5 c5 w5 hown5 hg5 hb5))
      have hA5 : ∀ y, In A5 y → In A y ∨ w4.heap.size ≤ y := fun y hy => by
        rcases hb5 with e | e
        · exact .inl (by show blk A = some y; rw [← e]; exact hy)
        · have h1 : blk A5 = some y := hy
          rw [e] at h1
          injection h1 with h1
          simp at h1
          exact .inr (by omega)
      have hbr : ∀ y, blk A4 = some y → blk Ar = some y := fun y hy => by
        rcases hb4 with e | e
        · rcases hb3 with e2 | e2
          · rw [← e2, ← e]; exact hy
          · rw [e, e2] at hy; cases hy
        · rw [e] at hy; cases hy
      have hc5 : Chg (In A) w4 w5 := ((Chg.refl _ w4).alloc _).trans hg5 (fun y hy => .inl hy)
      go_roundw
      case rel => exact ⟨k + 1, by omega, by go_num, A5, c5, A4, c4, rfl, by rw [hsn.out]; exact hown5, r4.keep hc5 (fun hi => (hap p hi).1 rfl) (fun y hy hi => (hap y hi).2 (hbr y hy)), fun y hy => by
        rcases hA5 y hy with h1 | h1
        · exact ⟨(hap y h1).1, fun h2 => (hap y h1).2 (hbr y h2)⟩
        · exact ⟨fun e => by have := r4.lt; omega, fun h2 => by have := r4.old y h2; omega⟩, hc4.trans hc5 (fun y hy => .inr (own_lt ho hy).1)⟩
      case measure => simp [intOf]; omega
    · have hke : k = 2 := by omega
      subst hke
      have hrd : RdIt wr A exL := Rd.of_own ho
      have hlay := lay_yes A 2 c exL wr hrd rfl (by omega) exL_right
      rw [exL_lay] at hlay
      have hBB := HB.out
      have hxl : exB.length = 22 := rfl
      have hd0 : decide (exB = exB ++ []) = true := by kernel_rfl
      have hd1 : decide (exB = exB ++ [0]) = false := by kernel_rfl
      have HD0 := Lib.hid hd0
      have HD1 := Lib.hid hd1
      clear hd0 hd1
      rcases ht with rfl | rfl
      · skip
        go_wp2_with (first
          | (go_at_call 89; go_must (refine hlay.mono ?_; rintro e w6 ⟨A6, c6, rfl, ho6, hc6⟩))
          | (go_at_call 116; go_must (refine (equalB_any A6 B exB.length n c6 d exB (exB ++ []) w6 (Rd.of_own ho6) ((hBB.keep hc (fun _ _ h => h)).keep hc6 (fun _ _ h => h)) rfl HN.out (by rw [hxl]; omega) (by omega)).mono ?_; rintro e w7 ⟨rfl, hc7⟩; rw [HD0.out])))
        go_ret2
        exact ⟨⟨A, c, rfl⟩, (hc.trans hc6 (fun x hx => hx.elim)).trans hc7 (fun x hx => hx.elim)⟩
      · skip
        go_wp2_with (first
          | (go_at_call 89; go_must (refine hlay.mono ?_; rintro e w6 ⟨A6, c6, rfl, ho6, hc6⟩))
          | (go_at_call 116; go_must (refine (equalB_any A6 B exB.length n c6 d exB (exB ++ [0]) w6 (Rd.of_own ho6) ((hBB.keep hc (fun _ _ h => h)).keep hc6 (fun _ _ h => h)) rfl HN.out (by rw [hxl]; omega) (by omega)).mono ?_; rintro e w7 ⟨rfl, hc7⟩; rw [HD1.out])))
        go_ret2
        exact ⟨⟨none, 0, rfl⟩, (hc.trans hc6 (fun x hx => hx.elim)).trans hc7 (fun x hx => hx.elim)⟩
end Go.Proofs.Ytngfimjbgopgjaa
