/- ItemsMeet: the walk of cutoverlaw9.ItemsMeet: it answers true, and turns nothing that was there. -/
import Derived.Test.YtngfimjbgopgjaaOctKnown
import Derived.Test.YtngfimjbgopgjaaArgsU
import Derived.Test.YtngfimjbgopgjaaItList
import Derived.Test.YtngfimjbgopgjaaItKnown9
import Derived.Test.YtngfimjbgopgjaaEv
import Derived.Test.YtngfimjbgopgjaaItN
namespace Go.Proofs.Ytngfimjbgopgjaa.itemsMeet
open Go.RowKit
set_option linter.unusedVariables false

set_option maxHeartbeats 1000000 in
set_option maxRecDepth 20000 in
/-- What the walk's last statement calls, of two lists of few rising items. -/
structure Ends (wb : World) (A B : Option Addr) (c d : Nat) (L M : List It) (i v z : Int) : Prop where
  c1 : ∀ w', Chg (fun _ => False) wb w' → Calls Try.prog 75 #[.slice A L.length c, .slice B M.length d] w' fun e w'' => e = .returned (.agg #[.int .i64 i, .int .i64 v]) ∧ Chg (fun _ => False) w' w''
  c2 : ∀ w', Chg (fun _ => False) wb w' → Calls Try.prog 75 #[.slice B M.length d, .slice A L.length c] w' fun e w'' => e = .returned (.agg #[.int .i64 i, .int .i64 v]) ∧ Chg (fun _ => False) w' w''
  r1 : ∀ w', Chg (fun _ => False) wb w' → Calls Try.prog 82 #[.slice A L.length c, .slice B M.length d] w' fun e w'' => e = .returned (.agg #[.int .i64 i, .int .i64 v]) ∧ Chg (fun _ => False) w' w''
  p1 : ∀ w', Chg (fun _ => False) wb w' → Calls Try.prog 83 #[.slice A L.length c, .slice B M.length d] w' fun e w'' => e = .returned (.int .i64 z) ∧ Chg (fun _ => False) w' w''
  p2 : ∀ w', Chg (fun _ => False) wb w' → Calls Try.prog 83 #[.slice B M.length d, .slice A L.length c] w' fun e w'' => e = .returned (.int .i64 (-z)) ∧ Chg (fun _ => False) w' w''
  q1 : ∀ w', Chg (fun _ => False) wb w' → Calls Try.prog 84 #[.slice A L.length c, .slice B M.length d] w' fun e w'' => e = .returned (.int .i64 z) ∧ Chg (fun _ => False) w' w''
  wr : IntKind.i64.wrap (-z) = -z
theorem ends (wb : World) (A B : Option Addr) (c d : Nat) (L M : List It) (fL : Few L) (fM : Few M) (rA : RdIt wb A L) (rB : RdIt wb B M) : ∃ i v z, Ends wb A B c d L M i v z := by
  have l1 := fL.len
  have l2 := fM.len
  have e1 : refCommonL L M = commonL L M := refCommon_law L M fL.up fM.up
  have e2 : commonL M L = commonL L M := commonL_comm M L
  have e3 : cmpL M L = - cmpL L M := cmpL_neg L M
  refine ⟨(commonL L M).1, (commonL L M).2, cmpL L M, ?_, ?_, ?_, ?_, ?_, ?_, ?_⟩
  · exact fun w' h => common_any A B L.length M.length c d L M w' (rA.keep h (fun _ _ h => h)) (rB.keep h (fun _ _ h => h)) rfl rfl (by omega) (by omega)
  · rw [← e2]; exact fun w' h => common_any B A M.length L.length d c M L w' (rB.keep h (fun _ _ h => h)) (rA.keep h (fun _ _ h => h)) rfl rfl (by omega) (by omega)
  · rw [← e1]; exact fun w' h => refCommon_any A B L.length M.length c d L M w' (rA.keep h (fun _ _ h => h)) (rB.keep h (fun _ _ h => h)) fL fM rfl rfl
  · exact fun w' h => compare_any A B L.length M.length c d L M w' (rA.keep h (fun _ _ h => h)) (rB.keep h (fun _ _ h => h)) rfl rfl (by omega) (by omega)
  · rw [← e3]; exact fun w' h => compare_any B A M.length L.length d c M L w' (rB.keep h (fun _ _ h => h)) (rA.keep h (fun _ _ h => h)) rfl rfl (by omega) (by omega)
  · exact fun w' h => refCompare_any A B L.length M.length c d L M w' (rA.keep h (fun _ _ h => h)) (rB.keep h (fun _ _ h => h)) rfl rfl (by omega) (by omega)
  · have : -1 ≤ cmpL L M ∧ cmpL L M ≤ 1 := by unfold cmpL cmpI; split <;> split <;> (try split) <;> omega
    exact IntWalk.i64_in _ (by omega)

set_option maxHeartbeats 1000000 in
set_option maxRecDepth 20000 in
theorem walk (w : World) (a0 : Option Addr) (len0 cap0 : Nat) (h0 : IntsU w a0 len0 cap0) (a1 : Option Addr) (len1 cap1 : Nat) (h1 : IntsU w a1 len1 cap1) (a2 : Int) (h2 : (Lit.int .i64 a2).wf = true) (a3 : Bool) :
    Calls Try.prog 17 #[.slice a0 len0 cap0, .slice a1 len1 cap1, .int .i64 a2, .bool a3] w (SaysTrue w) := by
  obtain ⟨zs, hz, hlc, hcm, hlm, hrd, hwf⟩ := h0
  obtain ⟨ys, hy, hlc1, hcm1, hlm1, hrd1, hwf1⟩ := h1
  have HZ := Lib.hid hz
  have HY := Lib.hid hy
  clear hz hy
  obtain ⟨i0, hi, hz0, hz1, hz2⟩ := info_parts intInfo
  have k1 := Int.emod_nonneg a2 (by omega : ((len0 : Int) + 1) ≠ 0)
  have k2 := Int.emod_lt_of_pos a2 (by omega : (0 : Int) < (len0 : Int) + 1)
  obtain ⟨k, hk⟩ : ∃ k : Nat, a2 % ((len0 : Int) + 1) = k := ⟨(a2 % ((len0 : Int) + 1)).toNat, by omega⟩
  have hkn : k ≤ len0 := by omega
  have hkc : k ≤ cap0 := by omega
  have hP : ∀ w', Calls Try.prog 22 #[.int .i64 a2, .int .i64 ((len0 : Int) + 1)] w' fun e w'' => e = .returned (.int .i64 k) ∧ w' = w'' := fun w' => by
    have := pick_any a2 ((len0 : Int) + 1) w' (by omega) (by omega)
    rwa [hk] at this
  clear k1 k2 hk h2
  have hl1 : 0 + k ≤ maxLen := by simp only [maxLen]; omega
  have hl2 : (0 + k) * 8 ≤ 140737488355328 := by omega
  have hl3 : k + len1 ≤ maxLen := by simp only [maxLen]; omega
  have hl4 : (k + len1) * 8 ≤ 140737488355328 := by omega
  have hlk : ((zs.take k).map (Value.int .i64)).length = k * 1 := by rw [List.length_map, List.length_take, HZ.out]; omega
  have hly : (ys.map (Value.int .i64)).length = len1 * 1 := by rw [List.length_map, HY.out]; omega
  have hlz : (zs.take k ++ ys).length = k + len1 := by rw [List.length_append, List.length_take, HZ.out, HY.out]; omega
  have hwz : ∀ z ∈ zs.take k ++ ys, (Lit.int .i64 z).wf = true := by
    intro z hz
    rcases List.mem_append.1 hz with hz | hz
    · exact hwf z (List.mem_of_mem_take hz)
    · exact hwf1 z hz
  have hrt : Rd w a0 ((zs.take k).map (Value.int .i64)) := by rw [List.map_take]; exact hrd.take k
  have hn0 : len0 ≤ 17592186044416 := by omega
  have hn1 : k + len1 ≤ 17592186044416 := by omega
  have hmk : ∀ w1 : World, (w1.alloc (.cells #[] 3)).ownsRow w1.heap.size 3 1 (.slice (some ⟨w1.heap.size, 0, none⟩) 0 0) 0 [] := fun w1 => World.ownsRow_made w1 #[] 0 (Nat.le_refl _) (by decide) rfl
  cases a3
  · go_enter Try.func17, Try.ntmps17
    go_wp2_with (first
      | (go_at_call 74; (refine (list_any a1 len1 cap1 ys w1 (hrd1.keep hc1 (fun _ _ h => h)) HY.out (by omega) hwf1).mono ?_; rintro e wb ⟨L2, fL2, A4, c4, rfl, ho4, hc4⟩; have hcb := hc1.trans hc4 (fun x hx => hx.elim); obtain ⟨i, v, z, EN⟩ := ends wb A1 A4 c1 c4 L L2 fL fL2 (ho1.rd.keep hc4 (fun _ _ h => h)) ho4.rd; have hz5 := EN.wr))
      | (go_at_call 74; (refine (list_any a0 len0 cap0 zs w hrd HZ.out hn0 hwf).mono ?_; rintro e w1 ⟨L, fL, A1, c1, rfl, ho1, hc1⟩))
      | (go_at_call 47; go_must (refine (known9_any _).mono ?_; rintro e w' ⟨rfl, hd⟩; have kk : Chg (fun _ => False) wb w' := hd; clear hd))
      | (go_at_call 75; with_reducible refine (EN.c1 _ kk).mono ?_; rintro e w' ⟨rfl, hd⟩; replace kk := kk.trans hd (fun x hx => hx.elim); clear hd)
      | (go_at_call 75; go_must (with_reducible refine (EN.c2 _ kk).mono ?_; rintro e w' ⟨rfl, hd⟩; replace kk := kk.trans hd (fun x hx => hx.elim); clear hd))
      | (go_at_call 82; go_must (with_reducible refine (EN.r1 _ kk).mono ?_; rintro e w' ⟨rfl, hd⟩; replace kk := kk.trans hd (fun x hx => hx.elim); clear hd))
      | (go_at_call 83; with_reducible refine (EN.p1 _ kk).mono ?_; rintro e w' ⟨rfl, hd⟩; replace kk := kk.trans hd (fun x hx => hx.elim); clear hd)
      | (go_at_call 83; go_must (with_reducible refine (EN.p2 _ kk).mono ?_; rintro e w' ⟨rfl, hd⟩; replace kk := kk.trans hd (fun x hx => hx.elim); clear hd))
      | (go_at_call 84; go_must (with_reducible refine (EN.q1 _ kk).mono ?_; rintro e w' ⟨rfl, hd⟩; replace kk := kk.trans hd (fun x hx => hx.elim); clear hd)))
    go_ret
    exact ⟨by simp, hcb.trans kk (fun x hx => hx.elim)⟩
  · go_enter Try.func17, Try.ntmps17
    go_wp2_with (first
      | (go_at_call 74; (refine (list_any A3 (k + len1) c3 (zs.take k ++ ys) w3 (Rd.of_own hown3) hlz hn1 hwz).mono ?_; rintro e wb ⟨L2, fL2, A4, c4, rfl, ho4, hc4⟩; replace hc4 := hc3.trans hc4 (fun x hx => hx.elim); have hcb := hc1.trans hc4 (fun x hx => hx.elim); obtain ⟨i, v, z, EN⟩ := ends wb A1 A4 c1 c4 L L2 fL fL2 (ho1.rd.keep hc4 (fun _ _ h => h)) ho4.rd; have hz5 := EN.wr))
      | (go_at_call 74; (refine (list_any a1 len1 cap1 ys w0 (hrd1.keep hc0 (fun _ _ h => h)) HY.out (by omega) hwf1).mono ?_; rintro e w1 ⟨L9, fL9, A9, c9, rfl, ho9, hc9⟩; have hc1 := hc0.trans hc9 (fun x hx => hx.elim); replace ho1 : OwnIt w1 w.heap.size A1 c1 L := hc9.own ho1 (fun _ _ h => h); have hmade := hmk w1))
      | (go_at_call 74; (refine (list_any a0 len0 cap0 zs w hrd HZ.out hn0 hwf).mono ?_; rintro e w0 ⟨L, fL, A1, c1, rfl, ho1, hc0⟩))
      | (go_at_call 22; go_must (refine (hP _).mono ?_; rintro e w' ⟨rfl, rfl⟩))
      | (at_builtin; refine wpList_append_rd _ rfl (.tmp 22) (.tmp 25) 45 rfl w1.heap.size 3 i0 _ 1 8 Try.underlying45 hi hz0 hz1 hz2 rfl (by decide) (some ⟨w1.heap.size, 0, none⟩) 0 0 [] rfl hmade a0 k cap0 ((zs.take k).map (Value.int .i64)) rfl hlk ((hrt.keep hc1 (fun _ _ h => h)).alloc _) (ints_one _) hl1 hl2 (by simp) ?_; intro A2 c2 w2 hown2 hg2 hb2; simp only [Nat.zero_add, List.nil_append] at hown2 ⊢; have hc2 := chg_made hg2; have hbase2 : w1.heap.size ≤ w2.heap.size := hc2.size)
      | (at_builtin; refine wpList_append_rd _ rfl (.tmp 26) (.tmp 27) 45 rfl w1.heap.size 3 i0 _ 1 8 Try.underlying45 hi hz0 hz1 hz2 rfl (by decide) A2 k c2 ((zs.take k).map (Value.int .i64)) rfl hown2 a1 len1 cap1 (ys.map (Value.int .i64)) rfl hly ((hrd1.keep hc1 (fun _ _ h => h)).keep hc2 (fun _ _ h => h)) (ints_one _) hl3 hl4 hbase2 ?_; intro A3 c3 w3 hown3 hg3 hb3; have hc3 : Chg (fun _ => False) w1 w3 := hc2.trans hg3 (fun x hx => .inr (own_lt hown2 hx).1); rw [← List.map_append] at hown3)
      | (go_at_call 47; go_must (refine (known9_any _).mono ?_; rintro e w' ⟨rfl, hd⟩; have kk : Chg (fun _ => False) wb w' := hd; clear hd))
      | (go_at_call 75; with_reducible refine (EN.c1 _ kk).mono ?_; rintro e w' ⟨rfl, hd⟩; replace kk := kk.trans hd (fun x hx => hx.elim); clear hd)
      | (go_at_call 75; go_must (with_reducible refine (EN.c2 _ kk).mono ?_; rintro e w' ⟨rfl, hd⟩; replace kk := kk.trans hd (fun x hx => hx.elim); clear hd))
      | (go_at_call 82; go_must (with_reducible refine (EN.r1 _ kk).mono ?_; rintro e w' ⟨rfl, hd⟩; replace kk := kk.trans hd (fun x hx => hx.elim); clear hd))
      | (go_at_call 83; with_reducible refine (EN.p1 _ kk).mono ?_; rintro e w' ⟨rfl, hd⟩; replace kk := kk.trans hd (fun x hx => hx.elim); clear hd)
      | (go_at_call 83; go_must (with_reducible refine (EN.p2 _ kk).mono ?_; rintro e w' ⟨rfl, hd⟩; replace kk := kk.trans hd (fun x hx => hx.elim); clear hd))
      | (go_at_call 84; go_must (with_reducible refine (EN.q1 _ kk).mono ?_; rintro e w' ⟨rfl, hd⟩; replace kk := kk.trans hd (fun x hx => hx.elim); clear hd)))
    go_ret
    exact ⟨by simp, hcb.trans kk (fun x hx => hx.elim)⟩
end Go.Proofs.Ytngfimjbgopgjaa.itemsMeet
