/- OctetReads: the walk of cutoverlaw1.OctetReads: it answers true, and turns nothing that was there. -/
import Derived.Test.YtngfimjbgopgjaaOctKnown
import Derived.Test.YtngfimjbgopgjaaSteps
import Derived.Test.YtngfimjbgopgjaaVer
import Derived.BigQuiet
import Derived.Deep.QuietTactic
import Derived.Deep.RegionWith
namespace Go.Proofs.Ytngfimjbgopgjaa.octetReads
open Go.RowKit
set_option linter.unusedVariables false

/-- What holds of the two readers between rounds. -/
def Inv (w0 w : World) (p q : Nat) : Prop :=
  ∃ A c B d lk xs, RAt 112 w p A c lk xs ∧ RAt 61 w q B d lk xs ∧ Two w0 w (wFoot p A) (wFoot q B)

set_option maxHeartbeats 4000000 in
set_option maxRecDepth 20000 in
theorem walk (w : World) (a0 : Option Addr) (len0 cap0 : Nat) (h0 : Bys w a0 len0 cap0) (a1 : Option Addr) (len1 cap1 : Nat) (h1 : Steps w a1 len1 cap1) : Calls Try.prog 10 #[.slice a0 len0 cap0, .slice a1 len1 cap1] w (SaysTrue w) := by
  obtain ⟨zs, rfl, hlc, hcm, hlm, hrd, hwf⟩ := h0
  obtain ⟨g1, g2, f, hf⟩ := h1
  have hby : ∀ x ∈ zs, 0 ≤ x ∧ x ≤ 255 := fun x hx => bounds_u8 (hwf x hx)
  have hfm : zs.length ≤ 9223372036854775807 := by simp only [maxLen] at hcm; omega
  have hfm1 : len1 ≤ 9223372036854775807 := by simp only [maxLen] at g2; omega
  go_enter Try.func10, Try.ntmps10
  go_wp2_with fail
  refine (newR_any _ _ _ zs _ hrd rfl (by omega) hby).mono ?_
  rintro e w1 ⟨p, A1, c1, rfl, r1, hA1, hp, hc1⟩
  have hF : ∀ x, wFoot p A1 x → w.heap.size ≤ x ∧ x < w1.heap.size := by
    rintro x (rfl | hx)
    · exact ⟨hp, r1.lt⟩
    · exact ⟨hA1 x hx, r1.foot x hx⟩
  clear hp hA1
  go_wp2_with fail
  refine (known1_any w1).mono ?_
  rintro e w2 ⟨rfl, hc2⟩
  replace r1 := r1.keep hc2 (fun h => h) (fun _ _ h => h)
  replace hF : ∀ x, wFoot p A1 x → w.heap.size ≤ x ∧ x < w2.heap.size := fun x hx => ⟨(hF x hx).1, Nat.lt_of_lt_of_le (hF x hx).2 hc2.size⟩
  replace hc2 := hc1.trans hc2 (fun x hx => hx.elim)
  clear hc1
  go_wp2_with fail
  refine (few_any a0 cap0 zs.length zs.length zs w2 (hrd.keep hc2 (fun _ _ h => h)) rfl hfm hlc (by omega)).mono ?_
  rintro e w3 ⟨B3, d3, rfl, ho3, hc3⟩
  rw [List.take_of_length_le (by omega)] at ho3
  have hr := RAt.made (T := 61) ho3 (by omega) hby
  have T0 : Two w (w3.alloc (.cells #[.slice B3 zs.length d3, .bool false] 61)) (wFoot p A1) (wFoot w3.heap.size B3) := Two.come hc2 hF (hc3.alloc _) (by
    rintro x (rfl | hx)
    · exact ⟨hc3.size, hr.lt⟩
    · exact ⟨(own_lt ho3 hx).1, hr.foot x hx⟩)
  have hI : Inv w (w3.alloc (.cells #[.slice B3 zs.length d3, .bool false] 61)) p w3.heap.size :=
    ⟨A1, c1, B3, d3, false, zs, (r1.keep hc3 (fun h => h) (fun _ _ h => h)).keep ((Chg.refl _ _).alloc _) (fun h => h) (fun _ _ h => h), hr, T0⟩
  rw [List.take_of_length_le (by omega)]
  obtain ⟨q, hq⟩ : ∃ q, q = w3.heap.size := ⟨_, rfl⟩
  have HQ := Lib.hid hq
  rw [← hq] at hI
  clear hr T0 ho3 r1 hF hq
  go_wp2_with fail
  rw [← HQ.out]
  go_loopw [7] (fun i wr => ∃ k : Nat, k ≤ len1 ∧ i = .int .i64 k ∧ Inv w wr p q) (fun i _ => len1 - (intOf i).toNat)
  case atStart => exact ⟨0, by omega, rfl, hI⟩
  case round =>
    obtain ⟨k, hk, rfl, A, c, B, d, lk, xs, hx, hr, T⟩ := hrel
    by_cases hlt : k < len1
    · by_cases h40 : k < 40
      · obtain ⟨b, o, rfl, s0, s1, s2, so⟩ := (hf k hlt).keep T.chg
        obtain ⟨z, hz⟩ : ∃ z, z = (f k).what := ⟨_, rfl⟩
        obtain ⟨y, hy⟩ : ∃ y, y = (f k).n := ⟨_, rfl⟩
        rw [← hz] at s0
        rw [← hy] at s1
        clear hz hy hf hI s2 so
        have z1 := Int.emod_nonneg z (by omega : (6 : Int) ≠ 0)
        have z2 := Int.emod_lt_of_pos z (by omega : (0 : Int) < 6)
        have zc : z % 6 = 0 ∨ z % 6 = 1 ∨ z % 6 = 2 ∨ z % 6 = 3 ∨ z % 6 = 4 ∨ z % 6 = 5 := by omega
        clear z1 z2
        rcases zc with zc | zc | zc | zc | zc | zc
        · have e0 : (z % 6 == 0) = true := by simp [zc]
          clear zc
          go_wp2_with fail
          refine (pick_any _ _ _ (by omega) (by omega)).mono ?_
          rintro e w' ⟨rfl, rfl⟩
          go_wp2_with fail
          refine (gu8_any p A c lk xs _ hx).mono ?_
          rintro e w4 ⟨rfl, hst⟩
          obtain ⟨A4, c4, x4, hc4, hf4, hl4⟩ := hst.step (fun x hx => (T.fl x hx).2)
          replace hr := hr.apart hc4 T.ap'
          replace T := T.left hc4 hf4 hl4
          clear hst hc4 hf4 hl4 hx
          go_wp2_with fail
          refine (rgu8_any q B d lk xs _ hr).mono ?_
          rintro e w5 ⟨rfl, hst⟩
          obtain ⟨B5, d5, r5, hc5, hf5, hl5⟩ := hst.step (fun x hx => (T.gl x hx).2)
          replace x4 := x4.apart hc5 T.ap
          replace T := T.right hc5 hf5 hl5
          clear hst hc5 hf5 hl5 hr
          go_wp2_with fail
          have m0 := r5.cell0
          have m1 := r5.cell1
          go_quiet ((first | (go_at_call 55; exact Calls.quiet_of_same ((lack_any p A4 c4 _ _ _ (x4.keep ((Chg.refl _ _).drewN _) (fun h => h) (fun _ _ h => h))).mono fun _ _ h => ⟨h.1, h.2.symm⟩)) | (go_at_call 56; exact Calls.quiet_of_same ((left_any p A4 c4 _ _ _ (x4.keep ((Chg.refl _ _).drewN _) (fun h => h) (fun _ _ h => h))).mono fun _ _ h => ⟨h.1, h.2.symm⟩))))
          clear m0 m1
          go_wp2_with fail
          go_roundw
          case rel => exact ⟨k + 1, by omega, by go_num, A4, c4, B5, d5, _, _, x4.keep ((Chg.refl _ _).drewN _) (fun h => h) (fun _ _ h => h), r5.keep ((Chg.refl _ _).drewN _) (fun h => h) (fun _ _ h => h), T.still ((Chg.refl _ _).drewN _)⟩
          case measure => simp [intOf]; omega
        · have e0 : (z % 6 == 0) = false := by simp [zc]
          have e1 : (z % 6 == 1) = true := by simp [zc]
          clear zc
          go_wp2_with fail
          refine (pick_any _ _ _ (by omega) (by omega)).mono ?_
          rintro e w' ⟨rfl, rfl⟩
          go_wp2_with fail
          refine (gu16_any p A c lk xs _ hx).mono ?_
          rintro e w4 ⟨rfl, hst⟩
          obtain ⟨A4, c4, x4, hc4, hf4, hl4⟩ := hst.step (fun x hx => (T.fl x hx).2)
          replace hr := hr.apart hc4 T.ap'
          replace T := T.left hc4 hf4 hl4
          clear hst hc4 hf4 hl4 hx
          go_wp2_with fail
          refine (rgu16_any q B d lk xs _ hr).mono ?_
          rintro e w5 ⟨rfl, hst⟩
          obtain ⟨B5, d5, r5, hc5, hf5, hl5⟩ := hst.step (fun x hx => (T.gl x hx).2)
          replace x4 := x4.apart hc5 T.ap
          replace T := T.right hc5 hf5 hl5
          clear hst hc5 hf5 hl5 hr
          go_wp2_with fail
          have m0 := r5.cell0
          have m1 := r5.cell1
          go_quiet ((first | (go_at_call 55; exact Calls.quiet_of_same ((lack_any p A4 c4 _ _ _ (x4.keep ((Chg.refl _ _).drewN _) (fun h => h) (fun _ _ h => h))).mono fun _ _ h => ⟨h.1, h.2.symm⟩)) | (go_at_call 56; exact Calls.quiet_of_same ((left_any p A4 c4 _ _ _ (x4.keep ((Chg.refl _ _).drewN _) (fun h => h) (fun _ _ h => h))).mono fun _ _ h => ⟨h.1, h.2.symm⟩))))
          clear m0 m1
          go_wp2_with fail
          go_roundw
          case rel => exact ⟨k + 1, by omega, by go_num, A4, c4, B5, d5, _, _, x4.keep ((Chg.refl _ _).drewN _) (fun h => h) (fun _ _ h => h), r5.keep ((Chg.refl _ _).drewN _) (fun h => h) (fun _ _ h => h), T.still ((Chg.refl _ _).drewN _)⟩
          case measure => simp [intOf]; omega
        · have e0 : (z % 6 == 0) = false := by simp [zc]
          have e1 : (z % 6 == 1) = false := by simp [zc]
          have e2 : (z % 6 == 2) = true := by simp [zc]
          clear zc
          go_wp2_with fail
          refine (pick_any _ _ _ (by omega) (by omega)).mono ?_
          rintro e w' ⟨rfl, rfl⟩
          go_wp2_with fail
          refine (gu64_any p A c lk xs _ hx).mono ?_
          rintro e w4 ⟨rfl, hst⟩
          obtain ⟨A4, c4, x4, hc4, hf4, hl4⟩ := hst.step (fun x hx => (T.fl x hx).2)
          replace hr := hr.apart hc4 T.ap'
          replace T := T.left hc4 hf4 hl4
          clear hst hc4 hf4 hl4 hx
          go_wp2_with fail
          refine (rgu64_any q B d lk xs _ hr).mono ?_
          rintro e w5 ⟨rfl, hst⟩
          obtain ⟨B5, d5, r5, hc5, hf5, hl5⟩ := hst.step (fun x hx => (T.gl x hx).2)
          replace x4 := x4.apart hc5 T.ap
          replace T := T.right hc5 hf5 hl5
          clear hst hc5 hf5 hl5 hr
          go_wp2_with fail
          have m0 := r5.cell0
          have m1 := r5.cell1
          go_quiet ((first | (go_at_call 55; exact Calls.quiet_of_same ((lack_any p A4 c4 _ _ _ (x4.keep ((Chg.refl _ _).drewN _) (fun h => h) (fun _ _ h => h))).mono fun _ _ h => ⟨h.1, h.2.symm⟩)) | (go_at_call 56; exact Calls.quiet_of_same ((left_any p A4 c4 _ _ _ (x4.keep ((Chg.refl _ _).drewN _) (fun h => h) (fun _ _ h => h))).mono fun _ _ h => ⟨h.1, h.2.symm⟩))))
          clear m0 m1
          go_wp2_with fail
          go_roundw
          case rel => exact ⟨k + 1, by omega, by go_num, A4, c4, B5, d5, _, _, x4.keep ((Chg.refl _ _).drewN _) (fun h => h) (fun _ _ h => h), r5.keep ((Chg.refl _ _).drewN _) (fun h => h) (fun _ _ h => h), T.still ((Chg.refl _ _).drewN _)⟩
          case measure => simp [intOf]; omega
        · have e0 : (z % 6 == 0) = false := by simp [zc]
          have e1 : (z % 6 == 1) = false := by simp [zc]
          have e2 : (z % 6 == 2) = false := by simp [zc]
          have e3 : (z % 6 == 3) = true := by simp [zc]
          clear zc
          have y1 := Int.emod_nonneg y (by omega : (9 : Int) ≠ 0)
          have y2 := Int.emod_lt_of_pos y (by omega : (0 : Int) < 9)
          go_wp2_with fail
          refine (pick_any _ _ _ (by omega) (by omega)).mono ?_
          rintro e w' ⟨rfl, rfl⟩
          go_wp2_with fail
          refine (pick_any _ _ _ (by omega) (by omega)).mono ?_
          rintro e w' ⟨rfl, rfl⟩
          go_wp2_with fail
          go_region_with (first
            | (go_at_call 62; refine (take_any p A c lk xs _ _ (hx.keep ((Chg.refl _ _).drew) (fun h => h) (fun _ _ h => h))).mono ?_; rintro e w4 ⟨C, dC, rfl, hdC, hC, hst⟩; obtain ⟨A4, c4, x4, hc4, hf4, hl4⟩ := hst.step (fun x hx => (T.fl x hx).2); have T4 := (T.still ((Chg.refl _ _).drew)).left hc4 hf4 hl4; have hr4 := (hr.keep ((Chg.refl _ _).drew) (fun h => h) (fun _ _ h => h)).apart hc4 T.ap'; have hcv4 := run_convert_rd (P := Try.prog) w4 34 9 5 Try.underlying34 Try.underlying5 Try.underlying9 C (takeR lk xs (y % 9 - 1)).1.length dC (takeR lk xs (y % 9 - 1)).1 rfl hC.1)
            | (go_at_call 63; refine (rtake_any q B d lk xs _ _ hr4).mono ?_; rintro e w5 ⟨D, dD, rfl, hdD, hD, hst5⟩; obtain ⟨B5, d5, r5, hc5, hf5, hl5⟩ := hst5.step (fun x hx => (T4.gl x hx).2); have x5 := x4.apart hc5 T4.ap; have T5 := T4.right hc5 hf5 hl5; have hC5 := hC.1.keep hc5 (fun x hx hg => Nat.lt_irrefl _ (Nat.lt_of_lt_of_le (T.gl x hg).2 (hC.2 x hx))); have hcv5 := run_convert_rd (P := Try.prog) w5 34 9 5 Try.underlying34 Try.underlying5 Try.underlying9 C (takeR lk xs (y % 9 - 1)).1.length dC (takeR lk xs (y % 9 - 1)).1 rfl hC5; have hcv6 := run_convert_rd (P := Try.prog) w5 34 9 5 Try.underlying34 Try.underlying5 Try.underlying9 D (takeR lk xs (y % 9 - 1)).1.length dD (takeR lk xs (y % 9 - 1)).1 rfl hD.1))
          all_goals
            clear hcv4 hcv5 hcv6 hC hD hC5 hst hst5 hc4 hf4 hl4 hc5 hf5 hl5 x4 T4 hr4 hx hr T
            go_wp2_with fail
            have m0 := r5.cell0
            have m1 := r5.cell1
            go_quiet ((first | (go_at_call 55; exact Calls.quiet_of_same ((lack_any p A4 c4 _ _ _ (x5.keep ((Chg.refl _ _).drewN _) (fun h => h) (fun _ _ h => h))).mono fun _ _ h => ⟨h.1, h.2.symm⟩)) | (go_at_call 56; exact Calls.quiet_of_same ((left_any p A4 c4 _ _ _ (x5.keep ((Chg.refl _ _).drewN _) (fun h => h) (fun _ _ h => h))).mono fun _ _ h => ⟨h.1, h.2.symm⟩))))
            clear m0 m1
            go_wp2_with fail
            go_roundw
            case rel => exact ⟨k + 1, by omega, by go_num, A4, c4, B5, d5, _, _, x5.keep ((Chg.refl _ _).drewN _) (fun h => h) (fun _ _ h => h), r5.keep ((Chg.refl _ _).drewN _) (fun h => h) (fun _ _ h => h), T5.still ((Chg.refl _ _).drewN _)⟩
            case measure => simp [intOf]; omega
        · have e0 : (z % 6 == 0) = false := by simp [zc]
          have e1 : (z % 6 == 1) = false := by simp [zc]
          have e2 : (z % 6 == 2) = false := by simp [zc]
          have e3 : (z % 6 == 3) = false := by simp [zc]
          have e4 : (z % 6 == 4) = true := by simp [zc]
          clear zc
          go_wp2_with fail
          refine (pick_any _ _ _ (by omega) (by omega)).mono ?_
          rintro e w' ⟨rfl, rfl⟩
          go_wp2_with fail
          go_region_with (first
            | (go_at_call 64; refine (gshort_any p A c lk xs _ (hx.keep ((Chg.refl _ _).drew) (fun h => h) (fun _ _ h => h))).mono ?_; rintro e w4 ⟨C, dC, rfl, hdC, hC, hst⟩; obtain ⟨A4, c4, x4, hc4, hf4, hl4⟩ := hst.step (fun x hx => (T.fl x hx).2); have T4 := (T.still ((Chg.refl _ _).drew)).left hc4 hf4 hl4; have hr4 := (hr.keep ((Chg.refl _ _).drew) (fun h => h) (fun _ _ h => h)).apart hc4 T.ap'; have hcv4 := run_convert_rd (P := Try.prog) w4 34 9 5 Try.underlying34 Try.underlying5 Try.underlying9 C (shortR lk xs).1.length dC (shortR lk xs).1 rfl hC.1)
            | (go_at_call 65; refine (rgshort_any q B d lk xs _ hr4).mono ?_; rintro e w5 ⟨D, dD, rfl, hdD, hD, hst5⟩; obtain ⟨B5, d5, r5, hc5, hf5, hl5⟩ := hst5.step (fun x hx => (T4.gl x hx).2); have x5 := x4.apart hc5 T4.ap; have T5 := T4.right hc5 hf5 hl5; have hC5 := hC.1.keep hc5 (fun x hx hg => Nat.lt_irrefl _ (Nat.lt_of_lt_of_le (T.gl x hg).2 (hC.2 x hx))); have hcv5 := run_convert_rd (P := Try.prog) w5 34 9 5 Try.underlying34 Try.underlying5 Try.underlying9 C (shortR lk xs).1.length dC (shortR lk xs).1 rfl hC5; have hcv6 := run_convert_rd (P := Try.prog) w5 34 9 5 Try.underlying34 Try.underlying5 Try.underlying9 D (shortR lk xs).1.length dD (shortR lk xs).1 rfl hD.1))
          all_goals
            clear hcv4 hcv5 hcv6 hC hD hC5 hst hst5 hc4 hf4 hl4 hc5 hf5 hl5 x4 T4 hr4 hx hr T
            go_wp2_with fail
            have m0 := r5.cell0
            have m1 := r5.cell1
            go_quiet ((first | (go_at_call 55; exact Calls.quiet_of_same ((lack_any p A4 c4 _ _ _ (x5.keep ((Chg.refl _ _).drewN _) (fun h => h) (fun _ _ h => h))).mono fun _ _ h => ⟨h.1, h.2.symm⟩)) | (go_at_call 56; exact Calls.quiet_of_same ((left_any p A4 c4 _ _ _ (x5.keep ((Chg.refl _ _).drewN _) (fun h => h) (fun _ _ h => h))).mono fun _ _ h => ⟨h.1, h.2.symm⟩))))
            clear m0 m1
            go_wp2_with fail
            go_roundw
            case rel => exact ⟨k + 1, by omega, by go_num, A4, c4, B5, d5, _, _, x5.keep ((Chg.refl _ _).drewN _) (fun h => h) (fun _ _ h => h), r5.keep ((Chg.refl _ _).drewN _) (fun h => h) (fun _ _ h => h), T5.still ((Chg.refl _ _).drewN _)⟩
            case measure => simp [intOf]; omega
        · have e0 : (z % 6 == 0) = false := by simp [zc]
          have e1 : (z % 6 == 1) = false := by simp [zc]
          have e2 : (z % 6 == 2) = false := by simp [zc]
          have e3 : (z % 6 == 3) = false := by simp [zc]
          have e4 : (z % 6 == 4) = false := by simp [zc]
          clear zc
          go_wp2_with fail
          refine (pick_any _ _ _ (by omega) (by omega)).mono ?_
          rintro e w' ⟨rfl, rfl⟩
          go_wp2_with fail
          refine (gtext_any p A c lk xs _ hx).mono ?_
          rintro e w4 ⟨rfl, hst⟩
          obtain ⟨A4, c4, x4, hc4, hf4, hl4⟩ := hst.step (fun x hx => (T.fl x hx).2)
          replace hr := hr.apart hc4 T.ap'
          replace T := T.left hc4 hf4 hl4
          clear hst hc4 hf4 hl4 hx
          go_wp2_with fail
          refine (rgtext_any q B d lk xs _ hr).mono ?_
          rintro e w5 ⟨rfl, hst⟩
          obtain ⟨B5, d5, r5, hc5, hf5, hl5⟩ := hst.step (fun x hx => (T.gl x hx).2)
          replace x4 := x4.apart hc5 T.ap
          replace T := T.right hc5 hf5 hl5
          clear hst hc5 hf5 hl5 hr
          go_wp2_with fail
          have m0 := r5.cell0
          have m1 := r5.cell1
          go_quiet ((first | (go_at_call 55; exact Calls.quiet_of_same ((lack_any p A4 c4 _ _ _ (x4.keep ((Chg.refl _ _).drewN _) (fun h => h) (fun _ _ h => h))).mono fun _ _ h => ⟨h.1, h.2.symm⟩)) | (go_at_call 56; exact Calls.quiet_of_same ((left_any p A4 c4 _ _ _ (x4.keep ((Chg.refl _ _).drewN _) (fun h => h) (fun _ _ h => h))).mono fun _ _ h => ⟨h.1, h.2.symm⟩))))
          clear m0 m1
          go_wp2_with fail
          go_roundw
          case rel => exact ⟨k + 1, by omega, by go_num, A4, c4, B5, d5, _, _, x4.keep ((Chg.refl _ _).drewN _) (fun h => h) (fun _ _ h => h), r5.keep ((Chg.refl _ _).drewN _) (fun h => h) (fun _ _ h => h), T.still ((Chg.refl _ _).drewN _)⟩
          case measure => simp [intOf]; omega
      · go_wp2_with fail
        go_ret
        exact ⟨rfl, T.chg⟩
    · go_wp2_with fail
      go_ret
      exact ⟨rfl, T.chg⟩
end Go.Proofs.Ytngfimjbgopgjaa.octetReads
