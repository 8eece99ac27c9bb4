/- ItemsCommon: the walk of cutoverlaw9.ItemsCommon: it answers true, and turns nothing that was there. -/
import Derived.Test.YtngfimjbgopgjaaOctKnown
import Derived.Test.YtngfimjbgopgjaaArgsU
import Derived.Test.YtngfimjbgopgjaaItList
import Derived.Test.YtngfimjbgopgjaaItKnown9
import Derived.Test.YtngfimjbgopgjaaEv
namespace Go.Proofs.Ytngfimjbgopgjaa.itemsCommon
open Go.RowKit
set_option linter.unusedVariables false

theorem cutGo_len (id last : Int) (l : List It) : (cutGo id last l).length ≤ l.length := by
  induction l generalizing last with
  | nil => simp [cutGo]
  | cons a l ih =>
    rw [cutGo]
    split
    · have := ih (min a.1 id); simp; exact this
    · have := ih last; simp; omega
theorem commonFrom_bd (out : It) (l m : List It) (h0 : out.1 ≤ 30) (h : ∀ x ∈ l, x.1 ≤ 30) : (commonFrom out l m).1 ≤ 30 := by
  induction l generalizing out m with
  | nil => rw [commonFrom_nil_left]; exact h0
  | cons a l ih =>
    rcases m with _ | ⟨b, m⟩
    · rw [commonFrom_nil_right]; exact h0
    · have ha := h a (by simp)
      rw [commonFrom]
      split
      · split
        · exact ih _ _ (by show min a.1 b.1 ≤ 30; omega) (fun x hx => h x (by simp [hx]))
        · show min a.1 b.1 ≤ 30; omega
      · exact h0

set_option maxHeartbeats 1000000 in
set_option maxRecDepth 20000 in
theorem walk (w : World) (a0 : Option Addr) (len0 cap0 : Nat) (h0 : IntsU w a0 len0 cap0) (a1 : Option Addr) (len1 cap1 : Nat) (h1 : IntsU w a1 len1 cap1) (a2 : Int) (h2 : (Lit.int .i64 a2).wf = true) :
    Calls Try.prog 14 #[.slice a0 len0 cap0, .slice a1 len1 cap1, .int .i64 a2] w (SaysTrue w) := by
  obtain ⟨zs, hz, hlc, hcm, hlm, hrd, hwf⟩ := h0
  obtain ⟨ys, hy, hlc1, hcm1, hlm1, hrd1, hwf1⟩ := h1
  have HZ := Lib.hid hz
  have HY := Lib.hid hy
  clear hz hy
  obtain ⟨i0, hi, hz0, hz1, hz2⟩ := info_parts intInfo
  have k1 := Int.emod_nonneg a2 (by omega : ((len0 : Int) + 1) ≠ 0)
  have k2 := Int.emod_lt_of_pos a2 (by omega : (0 : Int) < (len0 : Int) + 1)
  obtain ⟨k, hk⟩ : ∃ k : Nat, a2 % ((len0 : Int) + 1) = k := ⟨(a2 % ((len0 : Int) + 1)).toNat, by omega⟩
  have hkn : k ≤ len0 := by omega
  have hkc : k ≤ cap0 := by omega
  have hP : ∀ w', Calls Try.prog 22 #[.int .i64 a2, .int .i64 ((len0 : Int) + 1)] w' fun e w'' => e = .returned (.int .i64 k) ∧ w' = w'' := fun w' => by
    have := pick_any a2 ((len0 : Int) + 1) w' (by omega) (by omega)
    rwa [hk] at this
  clear k1 k2 hk h2
  have hl1 : 0 + k ≤ maxLen := by simp only [maxLen]; omega
  have hl2 : (0 + k) * 8 ≤ 140737488355328 := by omega
  have hl3 : k + len1 ≤ maxLen := by simp only [maxLen]; omega
  have hl4 : (k + len1) * 8 ≤ 140737488355328 := by omega
  have hlk : ((zs.take k).map (Value.int .i64)).length = k * 1 := by rw [List.length_map, List.length_take, HZ.out]; omega
  have hly : (ys.map (Value.int .i64)).length = len1 * 1 := by rw [List.length_map, HY.out]; omega
  have hlz : (zs.take k ++ ys).length = k + len1 := by rw [List.length_append, List.length_take, HZ.out, HY.out]; omega
  have hwz : ∀ z ∈ zs.take k ++ ys, (Lit.int .i64 z).wf = true := by
    intro z hz
    rcases List.mem_append.1 hz with hz | hz
    · exact hwf z (List.mem_of_mem_take hz)
    · exact hwf1 z hz
  have hrt : Rd w a0 ((zs.take k).map (Value.int .i64)) := by rw [List.map_take]; exact hrd.take k
  have hn0 : len0 ≤ 17592186044416 := by omega
  have hn1 : k + len1 ≤ 17592186044416 := by omega
  go_enter Try.func14, Try.ntmps14
  go_wp2_with (first
    | (go_at_call 74; (refine (list_any A3 (k + len1) c3 (zs.take k ++ ys) w3 (Rd.of_own hown3) hlz hn1 hwz).mono ?_; rintro e w4 ⟨L2, fL2, A4, c4, rfl, ho4, hc4⟩; replace hc4 := hc3.trans hc4 (fun x hx => hx.elim); have ho5 : OwnIt w4 w.heap.size A1 c1 L := hc4.own ho1 (fun _ _ h => h)))
    | (go_at_call 74; (refine (list_any a0 len0 cap0 zs w hrd HZ.out hn0 hwf).mono ?_; rintro e w1 ⟨L, fL, A1, c1, rfl, ho1, hc1⟩; have hmade : (w1.alloc (.cells #[] 3)).ownsRow w1.heap.size 3 1 (.slice (some ⟨w1.heap.size, 0, none⟩) 0 0) 0 [] := World.ownsRow_made w1 #[] 0 (Nat.le_refl _) (by decide) rfl))
    | (go_at_call 22; go_must (refine (hP _).mono ?_; rintro e w' ⟨rfl, rfl⟩))
    | (at_builtin; refine wpList_append_rd _ rfl (.tmp 20) (.tmp 23) 45 rfl w1.heap.size 3 i0 _ 1 8 Try.underlying45 hi hz0 hz1 hz2 rfl (by decide) (some ⟨w1.heap.size, 0, none⟩) 0 0 [] rfl hmade a0 k cap0 ((zs.take k).map (Value.int .i64)) rfl hlk ((hrt.keep hc1 (fun _ _ h => h)).alloc _) (ints_one _) hl1 hl2 (by simp) ?_; intro A2 c2 w2 hown2 hg2 hb2; simp only [Nat.zero_add, List.nil_append] at hown2 ⊢; have hc2 := chg_made hg2; have hbase2 : w1.heap.size ≤ w2.heap.size := hc2.size)
    | (at_builtin; refine wpList_append_rd _ rfl (.tmp 24) (.tmp 25) 45 rfl w1.heap.size 3 i0 _ 1 8 Try.underlying45 hi hz0 hz1 hz2 rfl (by decide) A2 k c2 ((zs.take k).map (Value.int .i64)) rfl hown2 a1 len1 cap1 (ys.map (Value.int .i64)) rfl hly ((hrd1.keep hc1 (fun _ _ h => h)).keep hc2 (fun _ _ h => h)) (ints_one _) hl3 hl4 hbase2 ?_; intro A3 c3 w3 hown3 hg3 hb3; have hc3 : Chg (fun _ => False) w1 w3 := hc2.trans hg3 (fun x hx => .inr (own_lt hown2 hx).1); rw [← List.map_append] at hown3)
    | (go_at_call 75; go_must (refine (common_any A1 A4 L.length L2.length c1 c4 L L2 w4 ho5.rd ho4.rd rfl rfl (by have := fL.len; omega) (by have := fL2.len; omega)).mono ?_; rintro e w5 ⟨rfl, hc5⟩; obtain ⟨ci, cv, hcc⟩ : ∃ ci cv, commonL L L2 = (ci, cv) := ⟨_, _, rfl⟩; rw [hcc]))
    )
  have hlaw := common_has L L2 fL.up fL2.up
  have hbd : (commonL L L2).1 ≤ 30 := commonFrom_bd (0, 0) L L2 (by decide) fL.small
  have hge : 0 ≤ (commonL L L2).1 := (common_law L L2 (0, 0) fL.up fL2.up (by decide) (by decide)).2.1
  rw [hcc] at hlaw hbd hge
  simp only at hlaw hbd hge
  obtain ⟨q1, q2, q3, q4⟩ := hlaw
  have Q1 := Lib.hid q1
  have Q2 := Lib.hid q2
  have Q3 := Lib.hid q3
  obtain ⟨g, hg⟩ : ∃ g, g = w5.heap.size := ⟨_, rfl⟩
  obtain ⟨w6, hw6⟩ : ∃ w6, w6 = w5.alloc (.cells #[.int .i64 ci, .int .i64 cv] 75) := ⟨_, rfl⟩
  have b0 : w6.cell? ⟨g, 0, none⟩ = some (.int .i64 ci) := by rw [hw6, hg]; exact cell_of_row _ _ 0 #[_, _] _ (0, 0) (heap_alloc_new w5 _)
  have b1 : w6.cell? ⟨g, 1, none⟩ = some (.int .i64 cv) := by rw [hw6, hg]; exact cell_of_row _ _ 1 #[_, _] _ (0, 0) (heap_alloc_new w5 _)
  have hc6 : Chg (fun _ => False) w w6 := by rw [hw6]; exact ((hc1.trans hc4 (fun x hx => hx.elim)).trans hc5 (fun x hx => hx.elim)).alloc _
  have r1 : RdIt w6 A1 L := by rw [hw6]; exact Rd.alloc (ho5.rd.keep hc5 (fun _ _ h => h)) _
  have r2 : RdIt w6 A4 L2 := by rw [hw6]; exact Rd.alloc (ho4.rd.keep hc5 (fun _ _ h => h)) _
  have ln1 : L.length ≤ 1048575 := by have := fL.len; omega
  have ln2 : L2.length ≤ 1048575 := by have := fL2.len; omega
  rw [← hw6, ← hg]
  clear q1 q2 q3 hw6 hg hc5 ho1 ho4 ho5 hcc hown2 hown3 hc1 hc2 hc3 hc4 hbase2 hmade hrd hrd1 hrt hwf hwf1 hwz hlz hlk hly hP hg2 hb2 hg3 hb3 HZ HY
  have hS : ∀ w', Chg (fun _ => False) w6 w' → w'.cell? ⟨g, 0, none⟩ = some (.int .i64 ci) ∧ w'.cell? ⟨g, 1, none⟩ = some (.int .i64 cv) := fun w' hw => ⟨hw.cell_some b0 (fun h => h), hw.cell_some b1 (fun h => h)⟩
  have hR1 : ∀ w', Chg (fun _ => False) w6 w' → RdIt w' A1 L := fun w' hw => r1.keep hw (fun _ _ h => h)
  have hR2 : ∀ w', Chg (fun _ => False) w6 w' → RdIt w' A4 L2 := fun w' hw => r2.keep hw (fun _ _ h => h)
  have k0 : Chg (fun _ => False) w6 w6.drew := (Chg.refl _ w6).drew
  go_region_held3 (fun w' => w'.cell? ⟨g, 0, none⟩ = some (.int .i64 ci) ∧ w'.cell? ⟨g, 1, none⟩ = some (.int .i64 cv)) (first | exact hS _ k6 | exact hS _ k5 | exact hS _ k4 | exact hS _ k3 | exact hS _ k2 | exact hS _ k1 | exact hS _ k0) (first
    | (go_at_call 47; go_must (refine (known9_any _).mono ?_; rintro e w7 ⟨rfl, hd⟩; have k1 := k0.trans hd (fun x hx => hx.elim); clear hd))
    | (go_at_call 76; (refine (has_any A4 L2.length c4 L2 ci cv _ (hR2 _ k2) rfl (by omega)).mono ?_; rintro e w9 ⟨rfl, hd⟩; have k3 := k2.trans hd (fun x hx => hx.elim); rw [Q2.out]; clear hd))
    | (go_at_call 76; go_must (refine (has_any A1 L.length c1 L ci cv _ (hR1 _ k1) rfl (by omega)).mono ?_; rintro e w8 ⟨rfl, hd⟩; have k2 := k1.trans hd (fun x hx => hx.elim); rw [Q1.out]; clear hd))
    | (go_at_call 77; (refine (cut_any A4 L2.length c4 L2 ci _ (hR2 _ k4) rfl ln2).mono ?_; rintro e w11 ⟨A6, c6, rfl, ho6, hd⟩; have k5 := k4.trans hd (fun x hx => hx.elim); have z5 := zA _ hd; clear hd))
    | (go_at_call 77; go_must (refine (cut_any A1 L.length c1 L ci _ (hR1 _ k3) rfl ln1).mono ?_; rintro e w10 ⟨A5, c5, rfl, ho5, hd⟩; have k4 := k3.trans hd (fun x hx => hx.elim); have zA : ∀ w', Chg (fun _ => False) w10 w' → RdIt w' A5 (cutL L ci) := (fun w' hw => ho5.rd.keep hw (fun _ _ h => h)); clear hd))
    | (go_at_call 48; go_must (refine (same_any A5 A6 (cutL L ci).length (cutL L2 ci).length c5 c6 (cutL L ci) (cutL L2 ci) _ z5 ho6.rd rfl rfl (Nat.le_trans (cutGo_len _ _ _) (by omega)) (Nat.le_trans (cutGo_len _ _ _) (by omega))).mono ?_; rintro e w12 ⟨rfl, hd⟩; have k6 := k5.trans hd (fun x hx => hx.elim); rw [decide_eq_true Q3.out]; clear hd)))
  obtain ⟨b2, b3⟩ := hS _ k6
  obtain ⟨va, hva⟩ : ∃ va, va = versionL L (ci + 1) := ⟨_, rfl⟩
  obtain ⟨vb, hvb⟩ : ∃ vb, vb = versionL L2 (ci + 1) := ⟨_, rfl⟩
  rw [← hva, ← hvb] at q4
  have HA := Lib.hid hva
  have HB := Lib.hid hvb
  have H4 := Lib.hid q4
  clear hva hvb q4 b0 b1 Q1 Q2 Q3 r1 r2 z5 ho5 ho6 zA k0 k1 k2 k3 k4 k5
  have hwr : IntKind.i64.wrap (ci + 1) = ci + 1 := IntWalk.i64_in _ (by omega)
  go_wp2_with (first
    | (go_at_call 78; (refine (version_any A4 L2.length c4 L2 (ci + 1) _ (hR2 _ k7) rfl (by omega)).mono ?_; rintro e w14 ⟨rfl, hd⟩; have k8 := k7.trans hd (fun x hx => hx.elim); rw [← HB.out]; clear hd))
    | (go_at_call 78; go_must (refine (version_any A1 L.length c1 L (ci + 1) _ (hR1 _ k6) rfl (by omega)).mono ?_; rintro e w13 ⟨rfl, hd⟩; have k7 := k6.trans hd (fun x hx => hx.elim); rw [← HA.out]; obtain ⟨b4, b5⟩ := hS _ k7; clear hd)))
  all_goals
    go_ret
    refine ⟨?_, hc6.trans k8 (fun x hx => hx.elim)⟩
    have q4 := H4.out
    clear HA HB H4
    simp_all
end Go.Proofs.Ytngfimjbgopgjaa.itemsCommon
