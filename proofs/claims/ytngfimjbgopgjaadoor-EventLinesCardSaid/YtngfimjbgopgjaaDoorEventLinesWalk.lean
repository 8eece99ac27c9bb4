/- EventLines: the walk of cutoverlaw10.EventLines. -/
import Derived.Test.YtngfimjbgopgjaaDoorPlayAll
import Derived.Test.YtngfimjbgopgjaaDoorEvReadAllA
import Derived.Test.YtngfimjbgopgjaaDoorEvSub
import Derived.Test.YtngfimjbgopgjaaDoorEvSame
import Derived.Deep.RegionHeld3
namespace Go.Proofs.YtngfimjbgopgjaaDoor.eventLines
open Go.RowKit
set_option linter.unusedVariables false

set_option maxHeartbeats 8000000 in
set_option maxRecDepth 20000 in
theorem walk (w : World) (T : Option Addr) (sn sc : Nat) (hS : RSteps w T sn sc) (D : Option Addr) (dn dc : Nat) (hD : RawDs w D dn dc) (from_ : Int) (hfr : (Lit.int .i64 from_).wf = true) (to_ : Int) (hto : (Lit.int .i64 to_).wf = true) (at_ : Int) (hat : (Lit.int .i64 at_).wf = true) (hN : NamesAt w 0) :
    Calls Tryd.prog 6 #[.slice T sn sc, .slice D dn dc, .int .i64 from_, .int .i64 to_, .int .i64 at_] w (SaysTrue w) := by
  have hbr := branch_any T sn sc D dn dc w hS hD hN
  clear hfr hto hat
  go_enter Tryd.func6, Tryd.ntmps6
  go_upto_region 2 with (go_at_call 19; (with_reducible refine hbr.mono ?_); rintro e w2 ⟨A, c, l, b, rfl, hL, hch⟩; have HL := Lib.hid hL; have HCH := Lib.hid hch; clear hL hch)
  have hl200 := HCH.out.good.1
  rcases own_at HL.out with ⟨rfl, rfl, rfl⟩ | ⟨g, rfl, hlc⟩
  · have hk := fun w' => known10_any w'
    have hnil : IsLine [] := fun i hi _ => absurd hi (by simp)
    go_wp2_with (first
      | (go_at_call 23; (with_reducible refine (line_yes none 0 0 [] w5 (RdEv.nil _ _) rfl (by omega) hnil).mono ?_); rintro e w6 ⟨rfl, hc6⟩)
      | (go_at_call 23; (with_reducible refine (line_yes none 0 0 [] w4 (RdEv.nil _ _) rfl (by omega) hnil).mono ?_); rintro e w5 ⟨rfl, hc5⟩)
      | (go_at_call 16; (with_reducible refine (hk _).mono ?_); rintro e w4 ⟨rfl, hc4⟩)
      | (go_at_call 13; (with_reducible refine (pick_nat _ _ _ (by omega) (by omega)).mono ?_); rintro e w' ⟨r, hr, rfl, rfl⟩; obtain rfl : r = 0 := by omega))
    go_ret
    exact ⟨rfl, ((HL.out.chg.trans hc4 (fun x hx => hx.elim)).trans hc5 (fun x hx => hx.elim)).trans hc6 (fun x hx => hx.elim)⟩
  obtain ⟨n, hn⟩ : ∃ n, n = l.length := ⟨_, rfl⟩
  have HN := Lib.hid hn
  rw [← hn] at hl200 hlc ⊢
  clear hn
  have e1 : IntKind.i64.wrap ((n : Int) + 1) = (n : Int) + 1 := IntWalk.i64_in _ (by omega)
  go_upto_region 3 with (go_at_call 13; (with_reducible refine (pick_nat _ _ _ (by omega) (by omega)).mono ?_); rintro e w' ⟨f, hf, rfl, rfl⟩)
  have e2 : IntKind.i64.wrap ((n : Int) - (f : Int)) = (n : Int) - (f : Int) := IntWalk.i64_in _ (by omega)
  have e3 : IntKind.i64.wrap ((n : Int) - (f : Int) + 1) = (n : Int) - (f : Int) + 1 := IntWalk.i64_in _ (by omega)
  go_upto_region 4 with (go_at_call 13; (with_reducible refine (pick_nat _ _ _ (by omega) (by omega)).mono ?_); rintro e w' ⟨d2, hd2, rfl, rfl⟩; have e4 : IntKind.i64.wrap ((f : Int) + (d2 : Int)) = (f : Int) + (d2 : Int) := IntWalk.i64_in _ (by omega))
  have hfd : f + d2 ≤ n := by omega
  clear hd2 e1 e2 e3 e4 hbr
  go_cut [49] from 35 to 48 (fun r w' => r = .bool false ∧ Chg (fun _ => False) w2 w')
  case first =>
    have hk := fun w' => known10_any w'
    have hnil : IsLine [] := fun i hi _ => absurd hi (by simp)
    have s1 : (0 : Int) ≤ (f : Int) := by omega
    have s2 : (f : Int) ≤ (f : Int) + (d2 : Int) := by omega
    have s3 : (f : Int) + (d2 : Int) ≤ (c : Int) := by omega
    have hlen : ((l.take (f + d2)).drop f).length = d2 := by rw [List.length_drop, List.length_take, ← HN.out]; omega
    have HLEN := Lib.hid hlen
    clear hlen
    have hd0 : c = f → ([] : List EvF).length = d2 := fun e => by simp only [List.length_nil]; omega
    by_cases hcf : c = f
    · have HD0 := Lib.hid (hd0 hcf)
      have hcf2 := eq_true hcf
      clear hcf hd0
      go_wp2_with (first
        | (go_at_call 23; (with_reducible refine hcl6.mono ?_); rintro e w6 ⟨rfl, hc6⟩)
        | (go_at_call 23; (with_reducible refine hcl4.mono ?_); rintro e w5 ⟨rfl, hc5⟩; have hcl6 := line_yes (some ⟨g, 0, none⟩) d2 (c - f) [] w5 (RdEv.nil _ _) HD0.out (by omega) hnil)
        | (go_at_call 16; (with_reducible refine (hk _).mono ?_); rintro e w4 ⟨rfl, hc4⟩; have hl4 := (HL.out.still hc4).rd; have hcl4 := line_yes (some ⟨g, 0, none⟩) n c l w4 hl4 HN.out.symm (by omega) HCH.out.isLine))
      go_meet
      exact ⟨rfl, (hc4.trans hc5 (fun x hx => hx.elim)).trans hc6 (fun x hx => hx.elim)⟩
    · clear hd0
      go_wp2_with (first
        | (go_at_call 23; (with_reducible refine hcl5.mono ?_); rintro e w6 ⟨rfl, hc6⟩)
        | (go_at_call 23; (with_reducible refine hcl4.mono ?_); rintro e w5 ⟨rfl, hc5⟩; have hl5 := (hl4.still hc5).cut f (f + d2); simp only [Nat.zero_add] at hl5; have hcl5 := line_yes (some ⟨g, f * 9, none⟩) d2 (c - f) _ w5 hl5 HLEN.out (by omega) (HCH.out.line f (f + d2)))
        | (go_at_call 16; (with_reducible refine (hk _).mono ?_); rintro e w4 ⟨rfl, hc4⟩; have hl4 := (HL.out.still hc4).rd; have hcl4 := line_yes (some ⟨g, 0, none⟩) n c l w4 hl4 HN.out.symm (by omega) HCH.out.isLine))
      go_meet
      exact ⟨rfl, (hc4.trans hc5 (fun x hx => hx.elim)).trans hc6 (fun x hx => hx.elim)⟩
  obtain ⟨rfl, hcX⟩ := hcut
  by_cases h3 : n < 3
  · have f1 : (n : Int) < 3 := by omega
    go_wp2_with fail
    go_ret
    exact ⟨rfl, HL.out.chg.trans hcX (fun x hx => hx.elim)⟩
  have f1 : ¬ (n : Int) < 3 := by omega
  have e1 : IntKind.i64.wrap ((n : Int) - 2) = (n : Int) - 2 := IntWalk.i64_in _ (by omega)
  go_upto_region 8 with fail
  go_cut [4] from 53 to 58 (fun v w' => (∃ k : Nat, v = .int .i64 k ∧ 1 ≤ k ∧ k + 1 < n) ∧ w' = wc)
  case first =>
    go_wp2_with (go_at_call 13; (with_reducible refine (pick_nat _ _ _ (by omega) (by omega)).mono ?_); rintro e w' ⟨r, hr, rfl, rfl⟩; have e4 : IntKind.i64.wrap (1 + (r : Int)) = ((r + 1 : Nat) : Int) := by rw [show 1 + (r : Int) = ((r + 1 : Nat) : Int) by omega]; exact IntWalk.i64_in _ (by omega))
    go_meet
    exact ⟨⟨r + 1, by go_num, by omega, by omega⟩, rfl⟩
  obtain ⟨⟨k, rfl, hk1, hk2⟩, rfl⟩ := hcut
  have HL1 := Lib.hid (HL.out.still hcX)
  have hcw := HL1.out.chg
  clear e1 f1 h3 hcX HL hfd hf
  obtain ⟨i0, hi, hz0, hz1, hz2⟩ := info_parts evInfo
  go_upto_region 9 with fail
  obtain ⟨w3, hw3⟩ : ∃ w3, w3 = wc := ⟨_, rfl⟩
  rw [← hw3] at HL1 hcw ⊢
  clear hw3
  go_cut [12] from 59 to 68 (fun v w' => (∃ (A : Option Addr) (c' : Nat), v = .slice A (n - 1) c' ∧ RdEv w' A (l.take k ++ l.drop (k + 1))) ∧ Chg (fun _ => False) w3 w')
  case first =>
    have s1 : (0 : Int) ≤ (k : Int) := by omega
    have s2 : (k : Int) ≤ (c : Int) := by omega
    have e4 : IntKind.i64.wrap ((k : Int) + 1) = (k : Int) + 1 := IntWalk.i64_in _ (by omega)
    have s3 : (0 : Int) ≤ (k : Int) + 1 := by omega
    have s4 : (k : Int) + 1 ≤ (n : Int) := by omega
    have s5 : (n : Int) ≤ (c : Int) := by omega
    have s6 : ¬ c = 0 := by omega
    have s7 : ¬ c = k + 1 := by omega
    have s8 : ((k : Int) + 1).toNat = k + 1 := by omega
    have s9 : ¬ c < k + 1 := by omega
    have hla : (eoC (l.take k)).length = k * 9 := by rw [eoC_len, List.length_take, ← HN.out, show min k n = k by omega]
    have hlb : (eoC (l.drop (k + 1))).length = (n - (k + 1)) * 9 := by rw [eoC_len, List.length_drop, ← HN.out]
    have hl1 : 0 + k ≤ maxLen := by simp only [maxLen]; omega
    have hl2 : (0 + k) * 112 ≤ 140737488355328 := by omega
    have hl3 : k + (n - (k + 1)) ≤ maxLen := by simp only [maxLen]; omega
    have hl4 : (k + (n - (k + 1))) * 112 ≤ 140737488355328 := by omega
    have hrA : ∀ w', Chg (fun _ => False) w3 w' → Rd w' (some ⟨g, 0, none⟩) (eoC (l.take k)) ∧ Rd w' (some ⟨g, (k + 1) * 9, none⟩) (eoC (l.drop (k + 1))) := fun w' hw => by
      have h1 := (HL1.out.still hw).rd
      have h2 := (h1.cut 0 k).rd
      have h3 := (h1.cut (k + 1) n).rd
      rw [Nat.zero_mul, List.drop_zero] at h2
      rw [Nat.zero_add, List.take_of_length_le (by rw [HN.out]; exact Nat.le_refl _)] at h3
      exact ⟨h2, h3⟩
    have HRA := Lib.hid hrA
    have HLA := Lib.hid hla
    have HLB := Lib.hid hlb
    have k0 : Chg (fun _ => False) w3 w3.drew := (Chg.refl _ _).drew
    clear hrA hla hlb
    go_region_held3 (fun w' => True) (trivial) (first
      | (refine step_append_rd _ (by rfl) (.tmp 63) (.tmp 67) 44 (by rfl) w3.heap.size 28 i0 _ 9 112 Tryd.underlying44 hi hz0 hz1 hz2 (by rfl) (by decide) A6 k c6 (eoC (l.take k)) (by first | rfl | (simp only [Nat.zero_add]; rfl)) hown6 _ (n - (k + 1)) _ (eoC (l.drop (k + 1))) (by rfl) HLB.out (HRA.out _ hc6).2 (eoC_one _) hl3 hl4 hc6.size ?_; intro A7 c7 w7 hown7 hg7 hb7; have hc7 : Chg (fun _ => False) w3 w7 := hc6.trans hg7 (fun x hx => .inr (own_lt hown6 hx).1))
      | (refine step_append_rd _ (by rfl) (.tmp 59) (.tmp 62) 44 (by rfl) w3.heap.size 28 i0 _ 9 112 Tryd.underlying44 hi hz0 hz1 hz2 (by rfl) (by decide) _ 0 0 [] (by rfl) (by first | exact World.ownsRow_made w3.drew #[] 0 (Nat.le_refl _) (by decide) rfl) _ k _ (eoC (l.take k)) (by rfl) HLA.out (HRA.out _ (k0.alloc _)).1 (eoC_one _) hl1 hl2 (k0.alloc _).size ?_; intro A6 c6 w6 hown6 hg6 hb6; simp only [Nat.zero_add, List.nil_append] at hown6; have hc6 : Chg (fun _ => False) w3 w6 := (k0.alloc _).trans hg6 (fun x hx => .inr (by have e := Option.some.inj hx; subst e; exact Nat.le_refl _)))
      | fail)
    all_goals
      go_wp2_with fail
      go_meet
      refine ⟨⟨A7, c7, by rw [show k + (n - (k + 1)) = n - 1 by omega], ⟨by rw [eoC_app]; exact Rd.of_own hown7, fun f hf => (HL1.out.ev f ?_).still hc7⟩⟩, hc7⟩
      rcases List.mem_append.1 hf with hf | hf
      · exact List.mem_of_mem_take hf
      · exact List.mem_of_mem_drop hf
  obtain ⟨⟨A6, c6, rfl, hrd6⟩, hcX⟩ := hcut
  have HRD6 := Lib.hid hrd6
  have HL2 := Lib.hid (HL1.out.still hcX)
  go_upto_region 10 with fail
  obtain ⟨w4, hw4⟩ : ∃ w4, w4 = wc := ⟨_, rfl⟩
  rw [← hw4] at HRD6 HL2 ⊢
  clear hw4 hrd6 hcX HL1 hcw
  go_cut [13] from 69 to 71 (fun v w' => (∃ (g2 c2 : Nat), v = .slice (some ⟨g2, 0, none⟩) n c2 ∧ n ≤ c2 ∧ OwnL w4 w' (some ⟨g2, 0, none⟩) c2 l ∧ w4.heap.size ≤ g2) ∧ Chg (fun _ => False) w4 w')
  case first =>
    have hmade : (w4.alloc (.cells #[] 28)).ownsRow w4.heap.size 28 9 (.slice (some ⟨w4.heap.size, 0, none⟩) 0 0) 0 [] := World.ownsRow_made w4 #[] 0 (Nat.le_refl _) (by decide) rfl
    have hl1 : 0 + n ≤ maxLen := by simp only [maxLen]; omega
    have hl2 : (0 + n) * 112 ≤ 140737488355328 := by omega
    have hrr := (HL2.out.still ((Chg.refl _ _).alloc (.cells #[] 28))).rd.rd
    have hle : (eoC l).length = n * 9 := by rw [eoC_len, ← HN.out]
    have HLE := Lib.hid hle
    clear hle
    go_wp2_with (at_builtin; refine wpList_append_rd _ rfl (.tmp 69) (.tmp 70) 44 rfl w4.heap.size 28 i0 _ 9 112 Tryd.underlying44 hi hz0 hz1 hz2 rfl (by decide) _ 0 0 [] rfl hmade (some ⟨g, 0, none⟩) n c (eoC l) rfl HLE.out hrr (eoC_one _) hl1 hl2 (by simp) ?_; intro A7 c7 w7 hown7 hg7 hb7; have hc7 := chg_made hg7; simp only [Nat.zero_add, List.nil_append] at hown7)
    go_meet
    have hO : OwnL w4 w7 A7 c7 l := ⟨by rw [← HN.out]; exact hown7, fun f hf => (HL2.out.ev f hf).still hc7, fun f hf => (HL2.out.ev f hf).old.mono (fun x hx => (own_lt hown7 hx).1), hc7⟩
    rcases own_at hO with ⟨_, h0, _⟩ | ⟨g2, rfl, h1⟩
    · have := HN.out; rw [h0] at this; simp at this; omega
    · exact ⟨⟨g2, c7, by first | rfl | (simp only [Nat.zero_add]), by rw [HN.out]; exact h1, hO, (own_lt hown7 rfl).1⟩, hc7⟩
  obtain ⟨⟨g2, c2, rfl, hnc2, hO, hg2⟩, hcX⟩ := hcut
  have HOL := Lib.hid hO
  go_upto_region 11 with fail
  obtain ⟨w5, hw5⟩ : ∃ w5, w5 = wc := ⟨_, rfl⟩
  rw [← hw5] at HOL hcX ⊢
  clear hw5 hO
  obtain ⟨k', rfl⟩ : ∃ k', k = k' + 1 := ⟨k - 1, by omega⟩
  have hkl : k' < l.length := by rw [← HN.out]; omega
  have hkl1 : k' + 1 < l.length := by rw [← HN.out]; omega
  have hown5 := HOL.out.own
  rw [← HN.out] at hown5
  have HO := Lib.hid hown5
  obtain ⟨x, hx⟩ : ∃ x, x = l[k'] := ⟨_, rfl⟩
  obtain ⟨y, hy⟩ : ∃ y, y = l[k' + 1] := ⟨_, rfl⟩
  have HX := Lib.hid hx
  have HYY := Lib.hid hy
  clear hown5
  go_cut [72] from 73 to 87 (fun _ w' => w' = (putEv (putEv w5 g2 ((k' + 1) * 9) x) g2 (k' * 9) y).drew)
  case first =>
    have hr5 := HOL.out.rd.rd
    obtain ⟨p0, p1, p2, p3, p4, p5, p6, p7, p8⟩ := eoC_get l (k') hkl
    have r0 := hr5.cells rfl _ _ p0
    have r1 := hr5.cells rfl _ _ p1
    have r2 := hr5.cells rfl _ _ p2
    have r3 := hr5.cells rfl _ _ p3
    have r4 := hr5.cells rfl _ _ p4
    have r5 := hr5.cells rfl _ _ p5
    have r6 := hr5.cells rfl _ _ p6
    have r7 := hr5.cells rfl _ _ p7
    have r8 := hr5.cells rfl _ _ p8
    simp only [Nat.zero_add] at r0 r1 r2 r3 r4 r5 r6 r7 r8
    clear p0 p1 p2 p3 p4 p5 p6 p7 p8
    obtain ⟨p0, p1, p2, p3, p4, p5, p6, p7, p8⟩ := eoC_get l (k' + 1) hkl1
    have s0 := hr5.cells rfl _ _ p0
    have s1 := hr5.cells rfl _ _ p1
    have s2 := hr5.cells rfl _ _ p2
    have s3 := hr5.cells rfl _ _ p3
    have s4 := hr5.cells rfl _ _ p4
    have s5 := hr5.cells rfl _ _ p5
    have s6 := hr5.cells rfl _ _ p6
    have s7 := hr5.cells rfl _ _ p7
    have s8 := hr5.cells rfl _ _ p8
    simp only [Nat.zero_add] at s0 s1 s2 s3 s4 s5 s6 s7 s8
    clear p0 p1 p2 p3 p4 p5 p6 p7 p8
    rw [← hx] at r0 r1 r2 r3 r4 r5 r6 r7 r8
    rw [← hy] at s0 s1 s2 s3 s4 s5 s6 s7 s8
    have y0 : w5.frozen? ⟨g2, k' * 9, none⟩ = false := HO.out.frozenAt _
    have z0 : w5.frozen? ⟨g2, (k' + 1) * 9, none⟩ = false := HO.out.frozenAt _
    have y1 : w5.frozen? ⟨g2, k' * 9 + 1, none⟩ = false := HO.out.frozenAt _
    have z1 : w5.frozen? ⟨g2, (k' + 1) * 9 + 1, none⟩ = false := HO.out.frozenAt _
    have y2 : w5.frozen? ⟨g2, k' * 9 + 2, none⟩ = false := HO.out.frozenAt _
    have z2 : w5.frozen? ⟨g2, (k' + 1) * 9 + 2, none⟩ = false := HO.out.frozenAt _
    have y3 : w5.frozen? ⟨g2, k' * 9 + 3, none⟩ = false := HO.out.frozenAt _
    have z3 : w5.frozen? ⟨g2, (k' + 1) * 9 + 3, none⟩ = false := HO.out.frozenAt _
    have y4 : w5.frozen? ⟨g2, k' * 9 + 4, none⟩ = false := HO.out.frozenAt _
    have z4 : w5.frozen? ⟨g2, (k' + 1) * 9 + 4, none⟩ = false := HO.out.frozenAt _
    have y5 : w5.frozen? ⟨g2, k' * 9 + 5, none⟩ = false := HO.out.frozenAt _
    have z5 : w5.frozen? ⟨g2, (k' + 1) * 9 + 5, none⟩ = false := HO.out.frozenAt _
    have y6 : w5.frozen? ⟨g2, k' * 9 + 6, none⟩ = false := HO.out.frozenAt _
    have z6 : w5.frozen? ⟨g2, (k' + 1) * 9 + 6, none⟩ = false := HO.out.frozenAt _
    have y7 : w5.frozen? ⟨g2, k' * 9 + 7, none⟩ = false := HO.out.frozenAt _
    have z7 : w5.frozen? ⟨g2, (k' + 1) * 9 + 7, none⟩ = false := HO.out.frozenAt _
    have y8 : w5.frozen? ⟨g2, k' * 9 + 8, none⟩ = false := HO.out.frozenAt _
    have z8 : w5.frozen? ⟨g2, (k' + 1) * 9 + 8, none⟩ = false := HO.out.frozenAt _
    have j0 : (0 : Int) ≤ (k' : Int) := by omega
    have j1 : (k' : Int) < (n : Int) := by omega
    have j2 : (k' : Int) + 1 < (n : Int) := by omega
    have j3 : (0 : Int) ≤ (k' : Int) + 1 := by omega
    have f4 : IntKind.i64.wrap (((k' + 1 : Nat) : Int) - 1) = (k' : Int) := by rw [show ((k' + 1 : Nat) : Int) - 1 = (k' : Int) by omega]; exact IntWalk.i64_in _ (by omega)
    have f4' : IntKind.i64.wrap ((k' : Int) + 1 - 1) = (k' : Int) := by rw [show ((k' : Int) + 1 - 1) = (k' : Int) by omega]; exact IntWalk.i64_in _ (by omega)
    clear hx hy hr5
    go_region
    all_goals
      go_wp2_with fail
      go_meet
      unfold putEv
      with_reducible rfl
  have hO6 := (putEv_own (putEv_own HO.out (k' + 1) hkl1 x) k' (by rw [List.length_set]; exact hkl) y).drew
  have hcP : Chg (· = g2) w5 wc := by rw [hcut]; exact ((putEv_chg _ _ _ _).trans (putEv_chg _ _ _ _) (fun x hx => .inl hx)).drew
  rw [← hcut] at hO6
  clear hcut
  have hc46 : Chg (fun _ => False) w4 wc := hcX.trans hcP (fun x hx => .inr (by rw [hx]; exact hg2))
  have hL6 := HL2.out.still hc46
  have hR6 := HRD6.out.still hc46
  have hT : RdEv wc (some ⟨g2, 0, none⟩) ((l.set (k' + 1) x).set k' y) := ⟨Rd.of_own hO6, fun f hf => by
    rcases List.mem_or_eq_of_mem_set hf with hf | hf
    · rcases List.mem_or_eq_of_mem_set hf with hf | hf
      · exact hL6.ev f hf
      · rw [hf, HX.out]; exact hL6.ev _ (List.getElem_mem _)
    · rw [hf, HYY.out]; exact hL6.ev _ (List.getElem_mem _)⟩
  have hnT : ¬ IsLine ((l.set (k' + 1) x).set k' y) := by
    rw [HX.out, HYY.out]
    exact HCH.out.noTurn k' hkl1
  have hnO : ¬ IsLine (l.take (k' + 1) ++ l.drop (k' + 1 + 1)) := HCH.out.noOut (k' + 1) (by omega) (by rw [← HN.out]; exact hk2)
  have hlO : (l.take (k' + 1) ++ l.drop (k' + 1 + 1)).length = n - 1 := by have h1 := HN.out; rw [List.length_append, List.length_take, List.length_drop]; omega
  have hlT : ((l.set (k' + 1) x).set k' y).length = n := by rw [List.length_set, List.length_set, ← HN.out]
  have hla := (layAll_any (some ⟨g, 0, none⟩) c l wc hL6.rd (by rw [← HN.out]; omega)).mono (R' := fun e w' => _) (fun e w' h => h.good HCH.out.good)
  rw [← HN.out] at hla
  have hzl := laidF_len HCH.out.good
  have hzb := laidF_byt (l := l) (fun f hf => (hL6.ev f hf).byt)
  have hgz : allB (l.map EvF.v) = laidF l := rfl
  obtain ⟨zs, hzs⟩ : ∃ zs, zs = laidF l := ⟨_, rfl⟩
  rw [← hzs] at hla hzl hzb hgz
  have HGZ := Lib.hid hgz
  have HNT := Lib.hid hnT
  have HNO := Lib.hid hnO
  have HLO := Lib.hid hlO
  have HLT := Lib.hid hlT
  have HT := Lib.hid hT
  have HR := Lib.hid hR6
  have HL6 := Lib.hid hL6
  have hcw6 := hL6.chg
  clear hzs hgz hnT hnO hlO hlT hT hR6 hL6 hcP hc46 hcX HX HYY hx hy hkl hkl1 hO6 HO HOL HL2 HRD6
  go_upto_region 14 with (first
    | (go_at_call 25; (with_reducible refine hla.mono ?_); rintro e w6 ⟨⟨A7, c7, rfl, hcap7, hrd7, hlt7⟩, hc6⟩)
    | (go_at_call 26; (with_reducible refine (readAll_any A7 zs.length c7 zs w6 hrd7 rfl (by omega) hzb).mono ?_); rintro e w7 hG; obtain ⟨⟨A8, c8, m, rfl, hrd8, hgd8, hmv⟩, hc7⟩ := hG.ok HCH.out.good.v HGZ.out; have HRD8 := Lib.hid hrd8; have HMV := Lib.hid hmv; have hml := hgd8.1; clear hrd8 hmv hgd8))
  have hc67 := hc6.trans hc7 (fun x hx => hx.elim)
  have hcl1 := line_no A6 (n - 1) c6 _ w7 (HR.out.still hc67) HLO.out (by omega) HNO.out
  have hcl2 := fun w' (hw : Chg (fun _ => False) w7 w') => line_no (some ⟨g2, 0, none⟩) n c2 _ w' (HT.out.still (hc67.trans hw (fun x hx => hx.elim))) HLT.out (by omega) HNT.out
  have hcs := fun w' (hw : Chg (fun _ => False) w7 w') => (sameAll_any (some ⟨g, 0, none⟩) A8 c c8 l m w' ((HL6.out.still (hc67.trans hw (fun x hx => hx.elim))).rd) (HRD8.out.still hw) (by rw [← HN.out]; omega) (by omega)).mono (R' := fun e w' => _) (fun e w' h => tells_so h HMV.out.symm)
  rw [← HN.out] at hcs
  have HCL1 := Lib.hid hcl1
  have HCL2 := Lib.hid hcl2
  have HCS := Lib.hid hcs
  clear hcl1 hcl2 hcs
  go_wp2_with (first
    | (go_at_call 21; (with_reducible refine (HCS.out w9 (hc8.trans hc9 (fun x hx => hx.elim))).mono ?_); rintro e w10 ⟨rfl, hc10⟩)
    | (go_at_call 23; (with_reducible refine (HCL2.out w8 hc8).mono ?_); rintro e w9 ⟨rfl, hc9⟩)
    | (go_at_call 23; (with_reducible refine HCL1.out.mono ?_); rintro e w8 ⟨rfl, hc8⟩))
  go_ret
  exact ⟨rfl, (((hcw6.trans hc67 (fun x hx => hx.elim)).trans hc8 (fun x hx => hx.elim)).trans hc9 (fun x hx => hx.elim)).trans hc10 (fun x hx => hx.elim)⟩
end Go.Proofs.YtngfimjbgopgjaaDoor.eventLines
