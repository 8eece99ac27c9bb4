/- OctetLays: the walk of cutoverlaw1.OctetLays: where no Step's bytes are more than 1,048,576 it answers true, and turns nothing that was there. -/
import Derived.Test.YtngfimjbgopgjaaOctKnown
import Derived.Test.YtngfimjbgopgjaaOctLaw
import Derived.Test.YtngfimjbgopgjaaStepsU
import Derived.Test.YtngfimjbgopgjaaVer
import Derived.BigQuiet
import Derived.Deep.QuietTactic
import Derived.Deep.RegionWith
import Derived.Deep.RegionHeld3
import Derived.Deep.DeepMust
namespace Go.Proofs.Ytngfimjbgopgjaa.octetLays
open Go.RowKit
set_option linter.unusedVariables false

/-- The two writers: the program's at p, the reference's at q, apart from one another; the same bytes lie in both. -/
def Pair (w0 w : World) (p q : Nat) (bs : List Int) : Prop :=
  ∃ A c B d, WAt 106 w p A c bs ∧ WAt 36 w q B d bs ∧ Two w0 w (wFoot p A) (wFoot q B)

section
variable {w0 w w1 w2 : World} {p q : Nat} {A B : Option Addr} {c d : Nat} {xs ys zs : List Int} {T T' : TypeId}
theorem foot_grown {A' : Option Addr} (hb : blk A' = blk A ∨ ∃ g, blk A' = some g ∧ w.heap.size ≤ g) : ∀ x, wFoot p A' x → wFoot p A x ∨ w.heap.size ≤ x := by
  rintro x (rfl | hx)
  · exact .inl (.inl rfl)
  · rcases hb with e | ⟨g, e, hg⟩
    · exact .inl (.inr (by rw [← e]; exact hx))
    · rw [e] at hx; cases hx; exact .inr hg
theorem after_left (h2 : WAt T' w q B d ys) (t : Two w0 w (wFoot p A) (wFoot q B)) (hw : Wrote T w w1 p A zs) :
    ∃ A' c', WAt T w1 p A' c' zs ∧ WAt T' w1 q B d ys ∧ Two w0 w1 (wFoot p A') (wFoot q B) ∧ Chg (wFoot p A) w w1 := by
  obtain ⟨A', c', h, hc, hb⟩ := hw
  exact ⟨A', c', h, h2.keep hc (t.ap' q (.inl rfl)) (fun x hx => t.ap' x (.inr hx)), t.left hc (foot_grown hb) h.foot_lt, hc⟩
theorem after_right (h1 : WAt T w p A c xs) (t : Two w0 w (wFoot p A) (wFoot q B)) (hw : Wrote T' w w1 q B zs) :
    ∃ B' d', WAt T w1 p A c xs ∧ WAt T' w1 q B' d' zs ∧ Two w0 w1 (wFoot p A) (wFoot q B') ∧ Chg (wFoot q B) w w1 := by
  obtain ⟨B', d', h, hc, hb⟩ := hw
  exact ⟨B', d', h1.keep hc (t.ap p (.inl rfl)) (fun x hx => t.ap x (.inr hx)), h, t.right hc (foot_grown hb) h.foot_lt, hc⟩
end

set_option maxHeartbeats 8000000 in
set_option maxRecDepth 20000 in
theorem walk (w : World) (a0 : Option Addr) (len0 cap0 : Nat) (h0 : StepsU w a0 len0 cap0) : Calls Try.prog 4 #[.slice a0 len0 cap0] w (SaysTrue w) := by
  obtain ⟨g1, g2, f, hf⟩ := h0
  have hfm1 : len0 ≤ 9223372036854775807 := by simp only [maxLen] at g2; omega
  obtain ⟨N, hN1, hN2, hN3⟩ : ∃ N, N ≤ len0 ∧ N ≤ 40 ∧ ∀ k, k < N ↔ k < len0 ∧ k < 40 := ⟨min len0 40, by omega, by omega, fun k => by omega⟩
  have HN := Lib.hid hN3
  have HF := Lib.hid hf
  clear hN3 hf
  go_enter Try.func4, Try.ntmps4
  go_wp2_with fail
  refine (newW_any w).mono ?_
  rintro e w1 ⟨p, rfl, hp, g2, hc1⟩
  go_wp2_with fail
  refine (known1_any w1).mono ?_
  rintro e w2 ⟨rfl, hc2⟩
  have hI : ∃ cur : List Int, cur.length ≤ 0 * 1048600 ∧ Pair w (w2.alloc (.cells #[.slice none 0 0] 36)) p w2.heap.size cur := by
    have k2 := g2.keep hc2 (fun h => h) (fun _ _ h => h)
    refine ⟨[], by simp, none, 0, none, 0, k2.keep ((Chg.refl _ _).alloc _) (fun h => h) (fun _ _ h => h), WAt.new _ _, ?_⟩
    refine Two.come (hc1.trans hc2 (fun x hx => hx.elim)) ?_ ((Chg.refl _ _).alloc _) ?_
    · rintro x (rfl | hx)
      · exact ⟨hp, k2.lt⟩
      · cases hx
    · rintro x (rfl | hx)
      · exact ⟨Nat.le_refl _, by simp⟩
      · cases hx
  obtain ⟨q, hq⟩ : ∃ q, q = w2.heap.size := ⟨_, rfl⟩
  have HQ := Lib.hid hq
  rw [← hq] at hI
  clear hc1 hc2 g2 hq
  go_wp2_with fail
  rw [← HQ.out]
  go_loopw [5] (fun i wr => ∃ k : Nat, k ≤ N ∧ i = .int .i64 k ∧ ∃ cur : List Int, cur.length ≤ k * 1048600 ∧ Pair w wr p q cur) (fun i _ => N - (intOf i).toNat)
  case atStart => exact ⟨0, by omega, rfl, hI⟩
  case round =>
    clear hI
    obtain ⟨k, hk, rfl, cur, hlen, A, c, B, d, hA, hB, tw⟩ := hrel
    by_cases hkN : k < N
    · obtain ⟨hlt, h40⟩ := (HN.out k).1 hkN
      obtain ⟨hst, hmost⟩ := HF.out k hlt
      obtain ⟨b, o, rfl, s0, s1, s2, so⟩ := hst.keep tw.chg
      obtain ⟨z, hz⟩ : ∃ z, z = (f k).what := ⟨_, rfl⟩
      rw [← hz] at s0
      clear hz
      have so0 : StepOk w (f k) := by obtain ⟨_, _, _, _, _, _, h⟩ := hst; exact h
      clear hst so
      go_wp2_with fail
      refine (pick_any _ _ _ (by omega) (by omega)).mono ?_
      rintro e w' ⟨rfl, rfl⟩
      obtain ⟨wx, hwx⟩ : ∃ wx, wx = wr.alloc (.cells #[.int .i64 z, .int .i64 (f k).n, .slice (f k).B (f k).bn (f k).bc] 38) := ⟨_, rfl⟩
      obtain ⟨bx, hbx⟩ : ∃ bx, bx = wr.heap.size := ⟨_, rfl⟩
      have hcx : Chg (fun _ => False) wr wx := by rw [hwx]; exact (Chg.refl _ _).alloc _
      have hrow : wx.heap[bx]? = some (.cells #[.int .i64 z, .int .i64 (f k).n, .slice (f k).B (f k).bn (f k).bc] 38 (0, 0)) := by rw [hwx, hbx]; exact heap_alloc_new wr _
      rw [← hwx, ← hbx]
      have x1 : wx.cell? ⟨bx, 1, none⟩ = some (.int .i64 (f k).n) := cell_of_row wx bx 1 #[_, _, _] _ (0, 0) hrow
      have x2 : wx.cell? ⟨bx, 2, none⟩ = some (.slice (f k).B (f k).bn (f k).bc) := cell_of_row wx bx 2 #[_, _, _] _ (0, 0) hrow
      have nF : ¬ wFoot p A bx := fun h => by have := (tw.fl bx h).2; omega
      have nG : ¬ wFoot q B bx := fun h => by have := (tw.gl bx h).2; omega
      replace hA := hA.keep hcx (fun h => h) (fun _ _ h => h)
      replace hB := hB.keep hcx (fun h => h) (fun _ _ h => h)
      replace tw := tw.still hcx
      have hoff : (f k).bs ≠ [] → Off (wFoot p A) (f k).B := fun hne x hx hp => by have := so0.rd.old (by simpa using hne) x hx; have := (tw.fl x hp).1; omega
      have hoffB : (f k).bs ≠ [] → Off (wFoot q B) (f k).B := fun hne x hx hp => by have := so0.rd.old (by simpa using hne) x hx; have := (tw.gl x hp).1; omega
      have sox : StepOk wx (f k) := so0.keep tw.chg
      clear hwx hbx hcx hrow s0 s1 s2
      have z1 := Int.emod_nonneg z (by omega : (6 : Int) ≠ 0)
      have z2 := Int.emod_lt_of_pos z (by omega : (0 : Int) < 6)
      have zc : z % 6 = 0 ∨ z % 6 = 1 ∨ z % 6 = 2 ∨ z % 6 = 3 ∨ z % 6 = 4 ∨ z % 6 = 5 := by omega
      clear z1 z2
      rcases zc with zc | zc | zc | zc | zc | zc
      · have e0 : (z % 6 == 0) = true := by simp [zc]
        clear zc
        go_wp2_with fail
        refine (u8_any p A c cur _ _ hA (by omega)).mono ?_
        rintro e w4 ⟨rfl, hw4⟩
        obtain ⟨A4, c4, hA4, hB4, tw4, hc4⟩ := after_left hB tw hw4
        have y1 := hc4.cell_some x1 nF
        clear x1 x2 hA hB tw hw4 hc4
        go_wp2_with fail
        refine (ru8_any q B d cur _ _ hB4 (by omega)).mono ?_
        rintro e w5 ⟨rfl, hw5⟩
        obtain ⟨B5, d5, hA5, hB5, tw5, hc5⟩ := after_right hA4 tw4 hw5
        clear y1 hA4 hB4 tw4 hw5 hc5
        go_wp2_with fail
        go_roundw
        case rel => exact ⟨k + 1, by have := (HN.out k).2 ⟨hlt, h40⟩; omega, by go_num, _, by rw [List.length_append, be_length]; omega, A4, c4, B5, d5, hA5, hB5, tw5⟩
        case measure => have := (HN.out k).2 ⟨hlt, h40⟩; simp [intOf]; omega
      · have e0 : (z % 6 == 0) = false := by simp [zc]
        have e1 : (z % 6 == 1) = true := by simp [zc]
        clear zc
        go_wp2_with fail
        refine (u16_any p A c cur _ _ hA (by omega)).mono ?_
        rintro e w4 ⟨rfl, hw4⟩
        obtain ⟨A4, c4, hA4, hB4, tw4, hc4⟩ := after_left hB tw hw4
        have y1 := hc4.cell_some x1 nF
        clear x1 x2 hA hB tw hw4 hc4
        go_wp2_with fail
        refine (ru16_any q B d cur _ _ hB4 (by omega)).mono ?_
        rintro e w5 ⟨rfl, hw5⟩
        obtain ⟨B5, d5, hA5, hB5, tw5, hc5⟩ := after_right hA4 tw4 hw5
        clear y1 hA4 hB4 tw4 hw5 hc5
        go_wp2_with fail
        go_roundw
        case rel => exact ⟨k + 1, by have := (HN.out k).2 ⟨hlt, h40⟩; omega, by go_num, _, by rw [List.length_append, be_length]; omega, A4, c4, B5, d5, hA5, hB5, tw5⟩
        case measure => have := (HN.out k).2 ⟨hlt, h40⟩; simp [intOf]; omega
      · have e0 : (z % 6 == 0) = false := by simp [zc]
        have e1 : (z % 6 == 1) = false := by simp [zc]
        have e2 : (z % 6 == 2) = true := by simp [zc]
        clear zc
        go_wp2_with fail
        refine (u64_any p A c cur _ _ hA (by omega)).mono ?_
        rintro e w4 ⟨rfl, hw4⟩
        obtain ⟨A4, c4, hA4, hB4, tw4, hc4⟩ := after_left hB tw hw4
        have y1 := hc4.cell_some x1 nF
        clear x1 x2 hA hB tw hw4 hc4
        go_wp2_with fail
        refine (ru64_any q B d cur _ _ hB4 (by omega)).mono ?_
        rintro e w5 ⟨rfl, hw5⟩
        obtain ⟨B5, d5, hA5, hB5, tw5, hc5⟩ := after_right hA4 tw4 hw5
        clear y1 hA4 hB4 tw4 hw5 hc5
        go_wp2_with fail
        go_roundw
        case rel => exact ⟨k + 1, by have := (HN.out k).2 ⟨hlt, h40⟩; omega, by go_num, _, by rw [List.length_append, be_length]; omega, A4, c4, B5, d5, hA5, hB5, tw5⟩
        case measure => have := (HN.out k).2 ⟨hlt, h40⟩; simp [intOf]; omega
      · have e0 : (z % 6 == 0) = false := by simp [zc]
        have e1 : (z % 6 == 1) = false := by simp [zc]
        have e2 : (z % 6 == 2) = false := by simp [zc]
        have e3 : (z % 6 == 3) = true := by simp [zc]
        clear zc
        go_wp2_with fail
        refine (raw_any p A c cur (f k).B (f k).bc (f k).bn (f k).bs _ hA sox.rd sox.len (by omega)).mono ?_
        rintro e w4 ⟨rfl, hw4⟩
        obtain ⟨A4, c4, hA4, hB4, tw4, hc4⟩ := after_left hB tw hw4
        have y2 := hc4.cell_some x2 nF
        have so4 := so0.keep tw4.chg
        clear x1 x2 hA hB tw hw4 hc4
        go_wp2_with fail
        refine (rraw_any q B d cur _ _ _ (f k).bs _ hB4 so4.rd so4.len (by omega)).mono ?_
        rintro e w5 ⟨rfl, hw5⟩
        obtain ⟨B5, d5, hA5, hB5, tw5, hc5⟩ := after_right hA4 tw4 hw5
        clear y2 hA4 hB4 tw4 hw5 hc5
        go_wp2_with fail
        go_roundw
        case rel => exact ⟨k + 1, by have := (HN.out k).2 ⟨hlt, h40⟩; omega, by go_num, _, by rw [List.length_append, so0.len]; omega, A4, c4, B5, d5, hA5, hB5, tw5⟩
        case measure => have := (HN.out k).2 ⟨hlt, h40⟩; simp [intOf]; omega
      · have e0 : (z % 6 == 0) = false := by simp [zc]
        have e1 : (z % 6 == 1) = false := by simp [zc]
        have e2 : (z % 6 == 2) = false := by simp [zc]
        have e3 : (z % 6 == 3) = false := by simp [zc]
        have e4 : (z % 6 == 4) = true := by simp [zc]
        clear zc
        by_cases hs : (f k).bn ≤ 65535
        · go_wp2_with fail
          go_region_held3 (fun w' => w'.cell? ⟨bx, 2, none⟩ = some (.slice (f k).B (f k).bn (f k).bc)) (first | exact y3 | exact y2 | exact x2) (first
            | (go_at_call 37; go_must (refine (short_yes p A c cur (f k).B (f k).bc (f k).bn (f k).bs _ (hA.keep ((Chg.refl _ _).drew) (fun h => h) (fun _ _ h => h)) sox.rd hoff sox.len hs (by omega)).mono ?_; rintro e w4 ⟨rfl, hw4⟩; obtain ⟨A4, c4, hA4, hB4, tw4, hc4⟩ := after_left (hB.keep ((Chg.refl _ _).drew) (fun h => h) (fun _ _ h => h)) (tw.still ((Chg.refl _ _).drew)) hw4; have y2 := hc4.cell_some (p := ⟨bx, 2, none⟩) (u := .slice (f k).B (f k).bn (f k).bc) x2 nF; have so4 := so0.keep tw4.chg))
            | (go_at_call 38; go_must (refine (rshort_yes q B d cur (f k).B (f k).bc (f k).bn (f k).bs _ hB4 so4.rd hoffB so4.len hs (by omega)).mono ?_; rintro e w5 ⟨rfl, hw5⟩; obtain ⟨B5, d5, hA5, hB5, tw5, hc5⟩ := after_right hA4 tw4 hw5; have y3 := hc5.cell_some (p := ⟨bx, 2, none⟩) (u := .slice (f k).B (f k).bn (f k).bc) y2 nG)))
          all_goals
            clear x1 x2 y2 y3 hA hB tw hw4 hc4 hA4 hB4 tw4 hw5 hc5
            go_wp2_with fail
            go_roundw
            case rel => exact ⟨k + 1, by have := (HN.out k).2 ⟨hlt, h40⟩; omega, by go_num, _, by rw [List.length_append, shortB, List.length_append, be_length, so0.len]; omega, A4, c4, B5, d5, hA5, hB5, tw5⟩
            case measure => have := (HN.out k).2 ⟨hlt, h40⟩; simp [intOf]; omega
        · go_wp2_with fail
          go_region_held3 (fun w' => w'.cell? ⟨bx, 2, none⟩ = some (.slice (f k).B (f k).bn (f k).bc)) (first | exact y3 | exact y2 | exact x2) (first
            | (go_at_call 37; go_must (refine (short_no p A c cur (f k).B (f k).bc (f k).bn _ (hA.keep ((Chg.refl _ _).drew) (fun h => h) (fun _ _ h => h)) (by omega) (by omega)).mono ?_; rintro e w4 ⟨rfl, rfl⟩))
            | (go_at_call 38; go_must (refine (rshort_no q B d cur (f k).B (f k).bc (f k).bn _ (hB.keep ((Chg.refl _ _).drew) (fun h => h) (fun _ _ h => h)) (by omega) (by omega)).mono ?_; rintro e w5 ⟨rfl, rfl⟩)))
          all_goals
            clear x1 x2
            go_wp2_with fail
            go_roundw
            case rel => exact ⟨k + 1, by have := (HN.out k).2 ⟨hlt, h40⟩; omega, by go_num, cur, Nat.le_trans hlen (Nat.mul_le_mul_right _ (Nat.le_succ k)), A, c, B, d, (hA.keep ((Chg.refl _ _).drew) (fun h => h) (fun _ _ h => h)), (hB.keep ((Chg.refl _ _).drew) (fun h => h) (fun _ _ h => h)), tw.still ((Chg.refl _ _).drew)⟩
            case measure => have := (HN.out k).2 ⟨hlt, h40⟩; simp [intOf]; omega
      · have e0 : (z % 6 == 0) = false := by simp [zc]
        have e1 : (z % 6 == 1) = false := by simp [zc]
        have e2 : (z % 6 == 2) = false := by simp [zc]
        have e3 : (z % 6 == 3) = false := by simp [zc]
        have e4 : (z % 6 == 4) = false := by simp [zc]
        clear zc
        have HS : Hid ((f k).bs.length = (f k).bn) := Lib.hid sox.len
        have hcv0 := fun (W : World) (hW : Rd W (f k).B ((f k).bs.map (Value.int .u8))) => run_convert_rd (P := Try.prog) W 34 9 5 Try.underlying34 Try.underlying5 Try.underlying9 (f k).B (f k).bn (f k).bc (f k).bs sox.len hW
        have hss : (strOfNums (f k).bs).size = (f k).bn := by rw [strOfNums_size, sox.len]
        by_cases hs : (f k).bn ≤ 65535
        · go_wp2_with fail
          go_region_held3 (fun w' => w'.cell? ⟨bx, 2, none⟩ = some (.slice (f k).B (f k).bn (f k).bc) ∧ Rd w' (f k).B ((f k).bs.map (Value.int .u8))) (first | exact ⟨y3, so5.rd⟩ | exact ⟨y2, so4.rd⟩ | exact ⟨x2, sox.rd⟩) (first
            | (go_at_call 39; go_must (refine (text_yes p A c cur (strOfNums (f k).bs) _ (hA.keep ((Chg.refl _ _).drew) (fun h => h) (fun _ _ h => h)) (by omega) (by omega)).mono ?_; rintro e w4 ⟨rfl, hw4⟩; obtain ⟨A4, c4, hA4, hB4, tw4, hc4⟩ := after_left (hB.keep ((Chg.refl _ _).drew) (fun h => h) (fun _ _ h => h)) (tw.still ((Chg.refl _ _).drew)) hw4; have y2 := hc4.cell_some (p := ⟨bx, 2, none⟩) (u := .slice (f k).B (f k).bn (f k).bc) x2 nF; have so4 := so0.keep tw4.chg))
            | (go_at_call 40; go_must (refine (rtext_yes q B d cur (strOfNums (f k).bs) _ hB4 (by omega) (by omega)).mono ?_; rintro e w5 ⟨rfl, hw5⟩; obtain ⟨B5, d5, hA5, hB5, tw5, hc5⟩ := after_right hA4 tw4 hw5; have y3 := hc5.cell_some (p := ⟨bx, 2, none⟩) (u := .slice (f k).B (f k).bn (f k).bc) y2 nG; have so5 := so0.keep tw5.chg)))
          all_goals
            clear x1 x2 y2 y3 hA hB tw hw4 hc4 hA4 hB4 tw4 hw5 hc5 hcv0
            go_wp2_with fail
            go_roundw
            case rel => exact ⟨k + 1, by have := (HN.out k).2 ⟨hlt, h40⟩; omega, by go_num, _, by rw [List.length_append, shortB, List.length_append, be_length, strB_length, hss]; omega, A4, c4, B5, d5, hA5, hB5, tw5⟩
            case measure => have := (HN.out k).2 ⟨hlt, h40⟩; simp [intOf]; omega
        · go_wp2_with fail
          go_region_held3 (fun w' => w'.cell? ⟨bx, 2, none⟩ = some (.slice (f k).B (f k).bn (f k).bc) ∧ Rd w' (f k).B ((f k).bs.map (Value.int .u8))) (first | exact ⟨y3, so5.rd⟩ | exact ⟨y2, so4.rd⟩ | exact ⟨x2, sox.rd⟩) (first
            | (go_at_call 39; go_must (refine (text_no p A c cur (strOfNums (f k).bs) _ (hA.keep ((Chg.refl _ _).drew) (fun h => h) (fun _ _ h => h)) (by omega) (by omega)).mono ?_; rintro e w4 ⟨rfl, hc4⟩; have hA4 := (hA.keep ((Chg.refl _ _).drew) (fun h => h) (fun _ _ h => h)).keep hc4 (fun h => h) (fun _ _ h => h); have hB4 := (hB.keep ((Chg.refl _ _).drew) (fun h => h) (fun _ _ h => h)).keep hc4 (fun h => h) (fun _ _ h => h); have tw4 := (tw.still ((Chg.refl _ _).drew)).still hc4; have y2 := hc4.cell_some (p := ⟨bx, 2, none⟩) (u := .slice (f k).B (f k).bn (f k).bc) x2 (fun h => h); have so4 := so0.keep tw4.chg))
            | (go_at_call 40; go_must (refine (rtext_no q B d cur (strOfNums (f k).bs) _ hB4 (by omega) (by omega)).mono ?_; rintro e w5 ⟨rfl, hc5⟩; have hA5 := hA4.keep hc5 (fun h => h) (fun _ _ h => h); have hB5 := hB4.keep hc5 (fun h => h) (fun _ _ h => h); have tw5 := tw4.still hc5; have y3 := hc5.cell_some (p := ⟨bx, 2, none⟩) (u := .slice (f k).B (f k).bn (f k).bc) y2 (fun h => h); have so5 := so0.keep tw5.chg)))
          all_goals
            clear x1 x2 y2 y3 hA hB tw hc4 hA4 hB4 tw4 hc5 hcv0
            go_wp2_with fail
            go_roundw
            case rel => exact ⟨k + 1, by have := (HN.out k).2 ⟨hlt, h40⟩; omega, by go_num, cur, Nat.le_trans hlen (Nat.mul_le_mul_right _ (Nat.le_succ k)), A, c, B, d, hA5, hB5, tw5⟩
            case measure => have := (HN.out k).2 ⟨hlt, h40⟩; simp [intOf]; omega
    · have hkN' : k = N := by omega
      subst hkN'
      have hx : ¬ (k < len0 ∧ k < 40) := fun h => hkN ((HN.out k).2 h)
      have htest : (k < len0 ∧ ¬ k < 40) ∨ ¬ k < len0 := by omega
      clear hkN hx
      have hlen' : cur.length ≤ 41944000 := by omega
      rcases htest with ⟨ht1, ht2⟩ | ht1
      all_goals
        go_wp2_with fail
        refine (bytes_any p A c cur wr hA (by omega)).mono ?_
        rintro e w3 ⟨A3, c3, rfl, ho3, hc3⟩
        have hA3 := hA.keep hc3 (fun h => h) (fun _ _ h => h)
        have hB3 := hB.keep hc3 (fun h => h) (fun _ _ h => h)
        have tw3 := tw.still hc3
        have o1 : ∀ x, blk A3 = some x → wr.heap.size ≤ x := fun x hx => (own_lt ho3 hx).1
        have o2 : ∀ x, blk A3 = some x → ¬ wFoot p A x := fun x hx h => by have := o1 x hx; have := (tw.fl x h).2; omega
        have o3 : ∀ x, blk A3 = some x → ¬ wFoot q B x := fun x hx h => by have := o1 x hx; have := (tw.gl x h).2; omega
        have o4 : ∀ x, blk A3 = some x → w.heap.size ≤ x := fun x hx => Nat.le_trans tw.chg.size (o1 x hx)
        clear hA hB tw hc3 o1
        obtain ⟨base, hbase⟩ : ∃ base, base = wr.heap.size := ⟨_, rfl⟩
        rw [← hbase] at ho3
        clear hbase
        have v1 := fun m => run_convert_rd (P := Try.prog) (w3.drewN m) 34 9 5 Try.underlying34 Try.underlying5 Try.underlying9 A3 cur.length c3 cur rfl ((Rd.of_own ho3).drewN m)
        have v2 := fun m => run_convert_rd (P := Try.prog) (w3.drewN m) 34 9 5 Try.underlying34 Try.underlying5 Try.underlying9 B cur.length d cur rfl (hB3.rd.drewN m)
        have m1 := hB3.cell
        go_wp2_with fail
        go_quiet (fail)
        clear v1 v2 m1
        go_wp2_with fail
        go_loopw [8] (fun i wr => ∃ j : Nat, j ≤ cur.length ∧ i = .int .i64 j ∧ ∃ ys : List Int, ys.length = cur.length ∧ wr.ownsRow base 5 1 (.slice A3 cur.length c3) cur.length (ys.map (Value.int .u8)) ∧ Chg (In A3) w3 wr) (fun i _ => cur.length - (intOf i).toNat)
        case atStart => exact ⟨0, by omega, rfl, cur, rfl, by exact ho3, (Chg.refl _ _).drewN _⟩
        case round =>
          obtain ⟨j, hj, rfl, ys, hyl, ho, hch⟩ := hrel
          by_cases hjn : j < cur.length
          · obtain ⟨g, cap, hv⟩ := Joins.ownsRow_form ho (by omega)
            cases hv
            have q1 := ho.cellAt j (by omega)
            rw [List.getElem?_map, List.getElem?_eq_getElem (by omega), Option.map_some] at q1
            have q2 := ho.frozenAt j
            go_wp2_with fail
            go_roundw
            case rel => exact ⟨j + 1, by omega, by go_num, ys.set j _, by simpa using hyl, by rw [List.map_set]; exact (ho.stored j _).1, hch.setCell (p := ⟨g, j, none⟩) (.inl rfl) _⟩
            case measure => simp [intOf]; omega
          · have hA4 := hA3.keep hch (fun h => o2 p h (.inl rfl)) (fun x hx h => o2 x h (.inr hx))
            have hB4 := hB3.keep hch (fun h => o3 q h (.inl rfl)) (fun x hx h => o3 x h (.inr hx))
            have hch4 := (tw3.chg.trans hch (fun x hx => .inr (o4 x hx))).drew
            have m1 := hB4.cell
            have v0 := run_convert_rd (P := Try.prog) wr.drew 34 9 5 Try.underlying34 Try.underlying5 Try.underlying9 B cur.length d cur rfl hB4.rd
            clear ho hch tw3 hA3 hB3 o2 o3 o4 ho3
            go_wp2_with fail
            go_region_with (first
              | (go_at_call 41; go_must (refine (bytes_any p A c cur _ (hA4.keep ((Chg.refl _ _).drew) (fun h => h) (fun _ _ h => h)) (by omega)).mono ?_; rintro e w5 ⟨A5, c5, rfl, ho5, hc5⟩; have y3 := hc5.cell_some (p := ⟨q, 0, none⟩) (u := .slice B cur.length d) m1 (fun h => h); have v3 := run_convert_rd (P := Try.prog) w5 34 9 5 Try.underlying34 Try.underlying5 Try.underlying9 A5 cur.length c5 cur rfl (Rd.of_own ho5); have v4 := run_convert_rd (P := Try.prog) w5 34 9 5 Try.underlying34 Try.underlying5 Try.underlying9 B cur.length d cur rfl ((hB4.keep ((Chg.refl _ _).drew) (fun h => h) (fun _ _ h => h)).rd.keep hc5 (fun _ _ h => h)))))
            all_goals
              go_wp2_with fail
              go_ret
              exact ⟨rfl, hch4.trans hc5 (fun x hx => hx.elim)⟩
end Go.Proofs.Ytngfimjbgopgjaa.octetLays
