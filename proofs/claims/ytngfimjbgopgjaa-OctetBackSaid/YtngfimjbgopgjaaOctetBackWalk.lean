/- OctetBack: the walk of cutoverlaw1.OctetBack: it answers true, and turns nothing that was there. -/
import Derived.Test.YtngfimjbgopgjaaOctKnown
import Derived.Test.YtngfimjbgopgjaaOctLaw
import Derived.Test.YtngfimjbgopgjaaSteps
import Derived.Test.YtngfimjbgopgjaaVer
import Derived.BigQuiet
import Derived.Deep.QuietTactic
import Derived.Deep.RegionWith
import Derived.Deep.DeepMust
namespace Go.Proofs.Ytngfimjbgopgjaa.octetBack
open Go.RowKit
set_option linter.unusedVariables false

/-- What a Step is laid as. -/
def encS (v : StepV) : List Int :=
  if v.what % 4 = 0 then be (IntKind.u64.wrap (v.n % 256)) 1
  else if v.what % 4 = 1 then be (IntKind.u64.wrap (v.n % 65536)) 2
  else if v.what % 4 = 2 then be (IntKind.u64.wrap v.n) 8
  else shortB (v.bs.take 1000)
theorem encS_len (v : StepV) : (encS v).length ≤ 1002 := by
  unfold encS
  split
  · simp [be_length]
  · split
    · simp [be_length]
    · split
      · simp [be_length]
      · simp only [shortB, List.length_append, be_length, List.length_take]; omega
theorem encS_byt (v : StepV) (h : ∀ z ∈ v.bs, 0 ≤ z ∧ z ≤ 255) : ∀ z ∈ encS v, 0 ≤ z ∧ z ≤ 255 := by
  unfold encS
  split
  · exact be_byt _ _
  · split
    · exact be_byt _ _
    · split
      · exact be_byt _ _
      · exact shortB_byt (fun z hz => h z (List.mem_of_mem_take hz))
/-- The first k Steps. -/
def encTo (f : Nat → StepV) : Nat → List Int
  | 0 => []
  | k + 1 => encTo f k ++ encS (f k)
/-- m Steps from k on. -/
def encF (f : Nat → StepV) (k : Nat) : Nat → List Int
  | 0 => []
  | m + 1 => encS (f k) ++ encF f (k + 1) m
theorem encTo_len (f : Nat → StepV) (k : Nat) : (encTo f k).length ≤ 1002 * k := by
  induction k with
  | zero => simp [encTo]
  | succ k ih => have := encS_len (f k); simp only [encTo, List.length_append]; omega
theorem encTo_byt (f : Nat → StepV) (k n : Nat) (hk : k ≤ n) (h : ∀ i, i < n → ∀ z ∈ (f i).bs, 0 ≤ z ∧ z ≤ 255) : ∀ z ∈ encTo f k, 0 ≤ z ∧ z ≤ 255 := by
  induction k with
  | zero => intro z hz; cases hz
  | succ k ih => exact byt_app (ih (by omega)) (encS_byt _ (h k (by omega)))
theorem encF_app (f : Nat → StepV) (m : Nat) : ∀ k, encTo f k ++ encF f k m = encTo f (k + m) := by
  induction m with
  | zero => intro k; simp [encF]
  | succ m ih =>
    intro k
    rw [encF, ← List.append_assoc, show encTo f k ++ encS (f k) = encTo f (k + 1) from rfl, ih, show k + 1 + m = k + (m + 1) by omega]
theorem encF_next (f : Nat → StepV) (k N : Nat) (h : k < N) : encF f k (N - k) = encS (f k) ++ encF f (k + 1) (N - (k + 1)) := by
  rw [show N - k = (N - (k + 1)) + 1 by omega]
  rfl

/-! The reads, at what was laid. -/
section
variable (r c : Nat) (A : Option Addr) (ys : List Int) (w : World)
theorem rd8 (n : Int) (h : RAt 112 w r A c false (be (IntKind.u64.wrap (n % 256)) 1 ++ ys)) :
    Calls Try.prog 58 #[.pointer (some ⟨r, 0, none⟩)] w (NGave 112 w r A .i64 (n % 256) (false, ys)) := by
  have := gu8_any r A c false _ w h
  rwa [numR_1] at this
theorem rd16 (n : Int) (h : RAt 112 w r A c false (be (IntKind.u64.wrap (n % 65536)) 2 ++ ys)) :
    Calls Try.prog 54 #[.pointer (some ⟨r, 0, none⟩)] w (NGave 112 w r A .i64 (n % 65536) (false, ys)) := by
  have := gu16_any r A c false _ w h
  rwa [numR_2] at this
theorem rd64 (n : Int) (hn : (Lit.int .i64 n).wf = true) (h : RAt 112 w r A c false (be (IntKind.u64.wrap n) 8 ++ ys)) :
    Calls Try.prog 52 #[.pointer (some ⟨r, 0, none⟩)] w (NGave 112 w r A .i64 n (false, ys)) := by
  have := gu64_any r A c false _ w h
  rwa [numR_8 n (bounds_i64 hn)] at this
theorem rdS (xs : List Int) (hl : xs.length ≤ 65535) (h : RAt 112 w r A c false (shortB xs ++ ys)) :
    Calls Try.prog 64 #[.pointer (some ⟨r, 0, none⟩)] w (RGave 112 w r A (xs, false, ys)) := by
  have := gshort_any r A c false _ w h
  rwa [shortR_app xs ys hl] at this
end
/-- A reader of the call's own. -/
theorem rt_own {T : TypeId} {w0 w w' : World} {p : Nat} {A : Option Addr} {st : Bool × List Int} (h : RTurned T w w' p A st) (hc : Chg (fun _ => False) w0 w) (hp : w0.heap.size ≤ p) :
    ∃ A' c', RAt T w' p A' c' st.1 st.2 ∧ Chg (fun _ => False) w0 w' := by
  obtain ⟨A', c', h1, _, h2⟩ := h
  exact ⟨A', c', h1, hc.trans h2 (fun x hx => .inr (by rw [hx]; exact hp))⟩

/-- The first loop, between rounds. -/
def Inv1 (w0 : World) (f : Nat → StepV) (N p k : Nat) (wr : World) : Prop :=
  ∃ A c, WAt 106 wr p A c (encTo f k) ∧ Chg (fun _ => False) w0 wr ∧ ∀ x, blk A = some x → w0.heap.size ≤ x
/-- The second one. -/
def Inv2 (w0 : World) (f : Nat → StepV) (N r k : Nat) (wr : World) : Prop :=
  ∃ A c, RAt 112 wr r A c false (encF f k (N - k)) ∧ Chg (fun _ => False) w0 wr

set_option maxHeartbeats 8000000 in
set_option maxRecDepth 20000 in
theorem walk (w : World) (a0 : Option Addr) (len0 cap0 : Nat) (h0 : Steps w a0 len0 cap0) : Calls Try.prog 11 #[.slice a0 len0 cap0] w (SaysTrue w) := by
  obtain ⟨g1, g2, f, hf⟩ := h0
  have hfm1 : len0 ≤ 9223372036854775807 := by simp only [maxLen] at g2; omega
  obtain ⟨N, hN1, hN2, hN3⟩ : ∃ N, N ≤ len0 ∧ N ≤ 40 ∧ ∀ k, k < N ↔ k < len0 ∧ k < 40 := ⟨min len0 40, by omega, by omega, fun k => by omega⟩
  have hby : ∀ i, i < N → ∀ z ∈ (f i).bs, 0 ≤ z ∧ z ≤ 255 := by
    intro i hi z hz
    obtain ⟨b, o, _, _, _, _, so⟩ := hf i (by omega)
    exact bounds_u8 (so.byt z hz)
  have HN := Lib.hid hN3
  have HF := Lib.hid hf
  have HB := Lib.hid hby
  clear hN3 hf hby
  go_enter Try.func11, Try.ntmps11
  go_wp2_with fail
  refine (newW_any w).mono ?_
  rintro e w1 ⟨p, rfl, hp, g2, hc1⟩
  go_wp2_with fail
  refine (known1_any w1).mono ?_
  rintro e w2 ⟨rfl, hc2⟩
  have hI : Inv1 w f N p 0 w2 := ⟨none, 0, g2.keep hc2 (fun h => h) (fun _ _ h => h), hc1.trans hc2 (fun x hx => hx.elim), fun x hx => by cases hx⟩
  clear hc1 hc2 g2
  go_wp2_with fail
  go_loopw [4] (fun i wr => ∃ k : Nat, k ≤ N ∧ i = .int .i64 k ∧ Inv1 w f N p k wr) (fun i _ => N - (intOf i).toNat)
  case atStart => exact ⟨0, by omega, rfl, hI⟩
  case round =>
    clear hI
    obtain ⟨k, hk, rfl, A, c, hw, hch, hA⟩ := hrel
    by_cases hkN : k < N
    · obtain ⟨hlt, h40⟩ := (HN.out k).1 hkN
      have hlen := encTo_len f k
      obtain ⟨b, o, rfl, s0, s1, s2, so⟩ := (HF.out k hlt).keep hch
      have henc : Hid (encTo f (k + 1) = encTo f k ++ encS (f k)) := Lib.hid rfl
      have hes : Hid (encS (f k) = _) := Lib.hid (encS.eq_1 (f k))
      obtain ⟨cur, hcur⟩ : ∃ cur, cur = encTo f k := ⟨_, rfl⟩
      rw [← hcur] at hw hlen henc
      clear hcur
      obtain ⟨z, hz⟩ : ∃ z, z = (f k).what := ⟨_, rfl⟩
      rw [← hz] at s0 hes
      clear hz
      have z1 := Int.emod_nonneg z (by omega : (4 : Int) ≠ 0)
      have z2 := Int.emod_lt_of_pos z (by omega : (0 : Int) < 4)
      have zc : z % 4 = 0 ∨ z % 4 = 1 ∨ z % 4 = 2 ∨ z % 4 = 3 := by omega
      clear z1 z2 hkN
      rcases zc with zc | zc | zc | zc
      · have e0 : (z % 4 == 0) = true := by simp [zc]
        have HE : Hid (encS (f k) = be (IntKind.u64.wrap ((f k).n % 256)) 1) := Lib.hid (by rw [hes.out]; simp [zc])
        clear zc hes
        go_wp2_with fail
        refine (pick_any _ _ _ (by omega) (by omega)).mono ?_
        rintro e w' ⟨rfl, rfl⟩
        go_wp2_with fail
        refine (pick_any _ _ _ (by omega) (by omega)).mono ?_
        rintro e w' ⟨rfl, rfl⟩
        go_wp2_with fail
        refine (u8_any p A c cur _ _ hw (by omega)).mono ?_
        rintro e w4 ⟨rfl, hw4⟩
        obtain ⟨A4, c4, h4, hc4, hA4⟩ := hw4.own hch hp hA
        rw [← HE.out] at h4
        clear hw4 hw
        go_wp2_with fail
        go_roundw
        case rel => exact ⟨k + 1, by have := (HN.out k).2 ⟨hlt, h40⟩; omega, by go_num, A4, c4, by rw [henc.out]; exact h4, hc4, hA4⟩
        case measure => have := (HN.out k).2 ⟨hlt, h40⟩; simp [intOf]; omega
      · have e0 : (z % 4 == 0) = false := by simp [zc]
        have e1 : (z % 4 == 1) = true := by simp [zc]
        have HE : Hid (encS (f k) = be (IntKind.u64.wrap ((f k).n % 65536)) 2) := Lib.hid (by rw [hes.out]; simp [zc])
        clear zc hes
        go_wp2_with fail
        refine (pick_any _ _ _ (by omega) (by omega)).mono ?_
        rintro e w' ⟨rfl, rfl⟩
        go_wp2_with fail
        refine (pick_any _ _ _ (by omega) (by omega)).mono ?_
        rintro e w' ⟨rfl, rfl⟩
        go_wp2_with fail
        refine (u16_any p A c cur _ _ hw (by omega)).mono ?_
        rintro e w4 ⟨rfl, hw4⟩
        obtain ⟨A4, c4, h4, hc4, hA4⟩ := hw4.own hch hp hA
        rw [← HE.out] at h4
        clear hw4 hw
        go_wp2_with fail
        go_roundw
        case rel => exact ⟨k + 1, by have := (HN.out k).2 ⟨hlt, h40⟩; omega, by go_num, A4, c4, by rw [henc.out]; exact h4, hc4, hA4⟩
        case measure => have := (HN.out k).2 ⟨hlt, h40⟩; simp [intOf]; omega
      · have e0 : (z % 4 == 0) = false := by simp [zc]
        have e1 : (z % 4 == 1) = false := by simp [zc]
        have e2 : (z % 4 == 2) = true := by simp [zc]
        have HE : Hid (encS (f k) = be (IntKind.u64.wrap (f k).n) 8) := Lib.hid (by rw [hes.out]; simp [zc])
        clear zc hes
        go_wp2_with fail
        refine (pick_any _ _ _ (by omega) (by omega)).mono ?_
        rintro e w' ⟨rfl, rfl⟩
        go_wp2_with fail
        refine (u64_any p A c cur _ _ hw (by omega)).mono ?_
        rintro e w4 ⟨rfl, hw4⟩
        obtain ⟨A4, c4, h4, hc4, hA4⟩ := hw4.own hch hp hA
        rw [← HE.out] at h4
        clear hw4 hw
        go_wp2_with fail
        go_roundw
        case rel => exact ⟨k + 1, by have := (HN.out k).2 ⟨hlt, h40⟩; omega, by go_num, A4, c4, by rw [henc.out]; exact h4, hc4, hA4⟩
        case measure => have := (HN.out k).2 ⟨hlt, h40⟩; simp [intOf]; omega
      · have e0 : (z % 4 == 0) = false := by simp [zc]
        have e1 : (z % 4 == 1) = false := by simp [zc]
        have e2 : (z % 4 == 2) = false := by simp [zc]
        have HE : Hid (encS (f k) = shortB ((f k).bs.take 1000)) := Lib.hid (by rw [hes.out]; simp [zc])
        clear zc hes
        go_wp2_with fail
        refine (pick_any _ _ _ (by omega) (by omega)).mono ?_
        rintro e w' ⟨rfl, rfl⟩
        go_wp2_with fail
        refine (few_any (f k).B (f k).bc (f k).bn 1000 (f k).bs wr so.rd so.len (by have := so.cap; have := so.most; simp only [maxLen] at this; omega) so.cap (by omega)).mono ?_
        rintro e w3 ⟨B3, d3, rfl, ho3, hc3⟩
        have hxl : ((f k).bs.take 1000).length ≤ 1000 := by rw [List.length_take]; omega
        obtain ⟨xs, hxs⟩ : ∃ xs, xs = (f k).bs.take 1000 := ⟨_, rfl⟩
        rw [← hxs] at ho3 hxl HE ⊢
        clear hxs
        go_wp2_with fail
        refine (short_yes p A c cur B3 d3 xs.length xs w3 (hw.keep hc3 (fun h => h) (fun _ _ h => h)) (Rd.of_own ho3) (Off.of_lt (B := wr.heap.size) (fun x hx => (own_lt ho3 hx).1) hw.foot_lt) rfl (by omega) (by omega)).mono ?_
        rintro e w4 ⟨rfl, hw4⟩
        obtain ⟨A4, c4, h4, hc4, hA4⟩ := hw4.own (hch.trans hc3 (fun x hx => hx.elim)) hp hA
        rw [← HE.out] at h4
        clear hw4 hw
        go_wp2_with fail
        go_roundw
        case rel => exact ⟨k + 1, by have := (HN.out k).2 ⟨hlt, h40⟩; omega, by go_num, A4, c4, by rw [henc.out]; exact h4, hc4, hA4⟩
        case measure => have := (HN.out k).2 ⟨hlt, h40⟩; simp [intOf]; omega
    · have hkN' : k = N := by omega
      subst hkN'
      have hx : ¬ (k < len0 ∧ k < 40) := fun h => hkN ((HN.out k).2 h)
      have hlen := encTo_len f k
      have htest : (k < len0 ∧ ¬ k < 40) ∨ ¬ k < len0 := by omega
      clear hkN hx
      obtain ⟨cur, hcur⟩ : ∃ cur, cur = encTo f k := ⟨_, rfl⟩
      rw [← hcur] at hw hlen
      have hbyt : ∀ z ∈ cur, 0 ≤ z ∧ z ≤ 255 := by rw [hcur]; exact encTo_byt f k k (Nat.le_refl _) HB.out
      have HC := Lib.hid hcur
      have HY := Lib.hid hbyt
      clear hcur hbyt
      rcases htest with ⟨ht1, ht2⟩ | ht1
      all_goals
        go_wp2_with fail
        refine (bytes_any p A c cur wr hw (by omega)).mono ?_
        rintro e w3 ⟨A3, c3, rfl, ho3, hc3⟩
        go_wp2_with fail
        refine (newR_any A3 c3 cur.length cur w3 (Rd.of_own ho3) rfl (by omega) HY.out).mono ?_
        rintro e w4 ⟨r, A4, c4, rfl, r4, hA4, hr, hc4⟩
        replace hr : w.heap.size ≤ r := Nat.le_trans hch.size (Nat.le_trans hc3.size hr)
        have hJ : Inv2 w f k r 0 w4 := ⟨A4, c4, by rw [HC.out, ← show encTo f 0 ++ encF f 0 k = encTo f k by rw [encF_app]; simp] at r4; exact r4, (hch.trans hc3 (fun x hx => hx.elim)).trans hc4 (fun x hx => hx.elim)⟩
        clear r4 hA4 ho3 hw hc3 hc4 hch hA hlen
        go_wp2_with fail
        go_loopw [6] (fun i wr => ∃ j : Nat, j ≤ k ∧ i = .int .i64 j ∧ Inv2 w f k r j wr) (fun i _ => k - (intOf i).toNat)
        case atStart => exact ⟨0, by omega, rfl, hJ⟩
        case round =>
          clear hJ
          obtain ⟨j, hj, rfl, A, c, hx, hch⟩ := hrel
          by_cases hjk : j < k
          · obtain ⟨hlt, h40⟩ := (HN.out j).1 hjk
            rw [encF_next f j k hjk] at hx
            obtain ⟨b, o, rfl, s0, s1, s2, so⟩ := (HF.out j hlt).keep hch
            have hes : Hid (encS (f j) = _) := Lib.hid (encS.eq_1 (f j))
            obtain ⟨rest, hrest⟩ : ∃ rest, rest = encF f (j + 1) (k - (j + 1)) := ⟨_, rfl⟩
            rw [← hrest] at hx
            have HR := Lib.hid hrest
            clear hrest
            obtain ⟨z, hz⟩ : ∃ z, z = (f j).what := ⟨_, rfl⟩
            rw [← hz] at s0 hes
            clear hz
            have z1 := Int.emod_nonneg z (by omega : (4 : Int) ≠ 0)
            have z2 := Int.emod_lt_of_pos z (by omega : (0 : Int) < 4)
            have zc : z % 4 = 0 ∨ z % 4 = 1 ∨ z % 4 = 2 ∨ z % 4 = 3 := by omega
            clear z1 z2
            rcases zc with zc | zc | zc | zc
            · have e0 : (z % 4 == 0) = true := by simp [zc]
              have HE : Hid (encS (f j) = be (IntKind.u64.wrap ((f j).n % 256)) 1) := Lib.hid (by rw [hes.out]; simp [zc])
              rw [HE.out] at hx
              clear zc hes HE
              go_wp2_with fail
              refine (pick_any _ _ _ (by omega) (by omega)).mono ?_
              rintro e w' ⟨rfl, rfl⟩
              go_wp2_with fail
              go_region_with (first | (go_at_call 58; go_must (refine (rd8 r c A rest _ (f j).n (hx.keep ((Chg.refl _ _).drew) (fun h => h) (fun _ _ h => h))).mono ?_; rintro e w4 ⟨rfl, hst⟩; obtain ⟨A4, c4, x4, hc4⟩ := rt_own hst hch.drew hr; obtain ⟨t0, t1, t2, so4⟩ := ((HF.out j hlt).keep hc4).out)) | (go_at_call 22; refine (pick_any _ _ _ (by omega) (by omega)).mono ?_; rintro e w' ⟨rfl, rfl⟩))
              all_goals
                go_wp2_with fail
                go_roundw
                case rel => exact ⟨j + 1, by omega, by go_num, A4, c4, by rw [← HR.out]; exact x4, hc4⟩
                case measure => simp [intOf]; omega
            · have e0 : (z % 4 == 0) = false := by simp [zc]
              have e1 : (z % 4 == 1) = true := by simp [zc]
              have HE : Hid (encS (f j) = be (IntKind.u64.wrap ((f j).n % 65536)) 2) := Lib.hid (by rw [hes.out]; simp [zc])
              rw [HE.out] at hx
              clear zc hes HE
              go_wp2_with fail
              refine (pick_any _ _ _ (by omega) (by omega)).mono ?_
              rintro e w' ⟨rfl, rfl⟩
              go_wp2_with fail
              go_region_with (first | (go_at_call 54; go_must (refine (rd16 r c A rest _ (f j).n (hx.keep ((Chg.refl _ _).drew) (fun h => h) (fun _ _ h => h))).mono ?_; rintro e w4 ⟨rfl, hst⟩; obtain ⟨A4, c4, x4, hc4⟩ := rt_own hst hch.drew hr; obtain ⟨t0, t1, t2, so4⟩ := ((HF.out j hlt).keep hc4).out)) | (go_at_call 22; refine (pick_any _ _ _ (by omega) (by omega)).mono ?_; rintro e w' ⟨rfl, rfl⟩))
              all_goals
                go_wp2_with fail
                go_roundw
                case rel => exact ⟨j + 1, by omega, by go_num, A4, c4, by rw [← HR.out]; exact x4, hc4⟩
                case measure => simp [intOf]; omega
            · have e0 : (z % 4 == 0) = false := by simp [zc]
              have e1 : (z % 4 == 1) = false := by simp [zc]
              have e2 : (z % 4 == 2) = true := by simp [zc]
              have HE : Hid (encS (f j) = be (IntKind.u64.wrap (f j).n) 8) := Lib.hid (by rw [hes.out]; simp [zc])
              rw [HE.out] at hx
              clear zc hes HE
              go_wp2_with fail
              refine (pick_any _ _ _ (by omega) (by omega)).mono ?_
              rintro e w' ⟨rfl, rfl⟩
              go_wp2_with fail
              go_region_with (go_at_call 52; go_must (refine (rd64 r c A rest _ (f j).n so.n (hx.keep ((Chg.refl _ _).drew) (fun h => h) (fun _ _ h => h))).mono ?_; rintro e w4 ⟨rfl, hst⟩; obtain ⟨A4, c4, x4, hc4⟩ := rt_own hst hch.drew hr; obtain ⟨t0, t1, t2, so4⟩ := ((HF.out j hlt).keep hc4).out))
              all_goals
                go_wp2_with fail
                go_roundw
                case rel => exact ⟨j + 1, by omega, by go_num, A4, c4, by rw [← HR.out]; exact x4, hc4⟩
                case measure => simp [intOf]; omega
            · have e0 : (z % 4 == 0) = false := by simp [zc]
              have e1 : (z % 4 == 1) = false := by simp [zc]
              have e2 : (z % 4 == 2) = false := by simp [zc]
              have HE : Hid (encS (f j) = shortB ((f j).bs.take 1000)) := Lib.hid (by rw [hes.out]; simp [zc])
              rw [HE.out] at hx
              clear zc hes HE
              have hxl : ((f j).bs.take 1000).length ≤ 1000 := by rw [List.length_take]; omega
              have hfew : ∀ W, StepOk W (f j) → Calls Try.prog 57 #[.slice (f j).B (f j).bn (f j).bc, .int .i64 1000] W (Gives W ((f j).bs.take 1000)) := fun W h => few_any (f j).B (f j).bc (f j).bn 1000 (f j).bs W h.rd h.len (by have := h.cap; have := h.most; simp only [maxLen] at this; omega) h.cap (by omega)
              have HW := Lib.hid hfew
              clear hfew
              obtain ⟨xs, hxs⟩ : ∃ xs, xs = (f j).bs.take 1000 := ⟨_, rfl⟩
              rw [← hxs] at hx hxl HW
              clear hxs
              go_wp2_with fail
              refine (pick_any _ _ _ (by omega) (by omega)).mono ?_
              rintro e w' ⟨rfl, rfl⟩
              go_wp2_with fail
              go_region_with (first
                | (go_at_call 64; go_must (refine (rdS r c A rest _ xs (by omega) (hx.keep ((Chg.refl _ _).drew) (fun h => h) (fun _ _ h => h))).mono ?_; rintro e w4 ⟨C, dC, rfl, hdC, hC, hst⟩; obtain ⟨A4, c4, x4, hc4⟩ := rt_own hst hch.drew hr; obtain ⟨t0, t1, t2, so4⟩ := ((HF.out j hlt).keep hc4).out; have hcv4 := run_convert_rd (P := Try.prog) w4 34 9 5 Try.underlying34 Try.underlying5 Try.underlying9 C xs.length dC xs rfl hC.1))
                | (go_at_call 57; go_must (refine (HW.out _ so4).mono ?_; rintro e w5 ⟨D, dD, rfl, hoD, hc5⟩; have hcv5 := run_convert_rd (P := Try.prog) w5 34 9 5 Try.underlying34 Try.underlying5 Try.underlying9 C xs.length dC xs rfl (hC.1.keep hc5 (fun _ _ h => h)); have hcv6 := run_convert_rd (P := Try.prog) w5 34 9 5 Try.underlying34 Try.underlying5 Try.underlying9 D xs.length dD xs rfl (Rd.of_own hoD))))
              all_goals
                go_wp2_with fail
                go_roundw
                case rel => exact ⟨j + 1, by omega, by go_num, A4, c4, by rw [← HR.out]; exact x4.keep hc5 (fun h => h) (fun _ _ h => h), hc4.trans hc5 (fun x hx => hx.elim)⟩
                case measure => simp [intOf]; omega
          · have hjk' : j = k := by omega
            subst hjk'
            rw [Nat.sub_self, show encF f j 0 = [] from rfl] at hx
            have hx1 : ¬ (j < len0 ∧ j < 40) := fun h => hjk ((HN.out j).2 h)
            have htest : (j < len0 ∧ ¬ j < 40) ∨ ¬ j < len0 := by omega
            clear hjk hx1
            rcases htest with ⟨hu1, hu2⟩ | hu1
            all_goals try (exfalso; omega)
            all_goals
              go_wp2_with fail
              refine (left_any r A c false [] wr hx).mono ?_
              rintro e w' ⟨rfl, rfl⟩
              go_wp2_with fail
              refine (lack_any r A c false [] _ hx).mono ?_
              rintro e w' ⟨rfl, rfl⟩
              go_wp2_with fail
              go_ret
              exact ⟨rfl, hch⟩
end Go.Proofs.Ytngfimjbgopgjaa.octetBack
