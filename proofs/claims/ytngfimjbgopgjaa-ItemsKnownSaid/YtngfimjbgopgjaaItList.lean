/- Contract of cutoverlaw9.list, told not to let anything in: rising items. -/
import Derived.Test.YtngfimjbgopgjaaItV
import Derived.Test.YtngfimjbgopgjaaHand
namespace Go.Proofs.Ytngfimjbgopgjaa
open Go.RowKit
set_option linter.unusedVariables false

theorem hverV_up (m z : Int) : m < hverV m (1 + z % 2) ∧ hverV m (1 + z % 2) ≤ m + 14 := by
  have h1 : 0 < ((1 + z % 2) % 3).toNat := by omega
  have h2 := iterG_bd ((1 + z % 2) % 3).toNat m
  have h3 := iterG_good _ m h1
  unfold hverV
  omega

/-- Rising items, few and small. -/
structure Few (L : List It) : Prop where
  up : rises (0, 0) L
  len : L.length ≤ 6
  small : ∀ x ∈ L, x.1 ≤ 30
theorem own_mono {w : World} {base base' : Nat} {e : TypeId} {size n : Nat} {v : Value} {xs : List Value} (h : w.ownsRow base e size v n xs) (hb : base' ≤ base) : w.ownsRow base' e size v n xs := by
  refine ⟨h.1, ?_⟩
  rcases h.2 with h | ⟨g, cap, cur, h1, h2, h3⟩
  · exact .inl h
  · exact .inr ⟨g, cap, cur, h1, Nat.le_trans hb h2, h3⟩

/-- Between the rounds: the items made of the first 2k numbers. -/
def ListRel (w0 wr : World) (k : Nat) (a id v : Value) : Prop :=
  ∃ (L : List It) (A : Option Addr) (c : Nat) (i u : Int), a = .slice A k c ∧ id = .int .i64 i ∧ v = .int .i64 u ∧ L.length = k ∧ rises (0, 0) L ∧ lastOr (0, 0) L = (i, u) ∧ 0 ≤ i ∧ i ≤ 5 * k ∧ 0 ≤ u ∧ u ≤ 40 * k ∧ (∀ x ∈ L, x.1 ≤ 30) ∧
    wr.ownsRow w0.heap.size 75 2 (.slice A k c) k (itC L) ∧ Chg (fun _ => False) w0 wr

set_option maxHeartbeats 4000000 in
set_option maxRecDepth 20000 in
theorem list_any (A : Option Addr) (n c : Nat) (zs : List Int) (w : World) (h : Rd w A (zs.map (Value.int .i64))) (hn : zs.length = n) (hn2 : n ≤ 17592186044416) (hwf : ∀ z ∈ zs, (Lit.int .i64 z).wf = true) :
    Calls Try.prog 74 #[.slice A n c, .bool false] w fun e w' => ∃ L, Few L ∧ GivesIt w L e w' := by
  subst hn
  obtain ⟨i0, hi, hz0, hz1, hz2⟩ := info_parts itemInfo
  have HA := Lib.hid h
  clear h
  go_enter Try.func74, Try.ntmps74
  go_wp2_with fail
  go_loopw [5, 6, 7, 8] (fun a id v i wr => ∃ j k : Nat, k ≤ 6 ∧ Hid (j = 2 * k) ∧ i = .int .i64 (j : Int) ∧ ListRel w wr k a id v) (fun _ _ _ i _ => 12 - (intOf i).toNat)
  case atStart => exact ⟨0, 0, by omega, Lib.hid rfl, rfl, [], none, 0, 0, 0, rfl, rfl, rfl, rfl, trivial, rfl, by omega, by omega, by omega, by omega, (by intro x hx; cases hx), World.ownsRow_nil _ _ _ _, Chg.refl _ _⟩
  case round =>
    obtain ⟨j, k, hk, HJ, rfl, L, A5, c5, ii, vv, rfl, rfl, rfl, hL, hup, hlast, i1, i2, v1, v2, hsm, ho, hc⟩ := hrel
    have hj12 : j ≤ 12 := by have := HJ.out; omega
    have hw1 : IntKind.i64.wrap ((j : Int) + 1) = (j : Int) + 1 := IntWalk.i64_in _ (by omega)
    by_cases hkn : j + 1 < zs.length
    · by_cases h6 : j < 12
      · obtain ⟨b, o, rfl, hq0⟩ := (HA.out.keep hc (fun _ _ h => h)).at_ (k := j) (by simp; omega)
        have hq1 := ((HA.out.keep hc (fun _ _ h => h)).cells rfl (j + 1) (.int .i64 zs[j + 1])) (by rw [List.getElem?_map, List.getElem?_eq_getElem hkn]; rfl)
        rw [List.getElem_map] at hq0
        have wz1 := bounds_i64 (hwf zs[j + 1] (List.getElem_mem _))
        obtain ⟨z1, hz1'⟩ : ∃ z1, z1 = zs[j] := ⟨_, rfl⟩
        obtain ⟨z2, hz2'⟩ : ∃ z2, z2 = zs[j + 1] := ⟨_, rfl⟩
        rw [← hz1'] at hq0
        rw [← hz2'] at hq1 wz1
        clear hz1' hz2'
        have a1 := Int.emod_nonneg z1 (by omega : (5 : Int) ≠ 0)
        have a2 := Int.emod_lt_of_pos z1 (by omega : (0 : Int) < 5)
        have a3 := Int.emod_nonneg z2 (by omega : (2 : Int) ≠ 0)
        have a4 := Int.emod_lt_of_pos z2 (by omega : (0 : Int) < 2)
        have n1 : (j : Int) < (zs.length : Int) := by omega
        have n2 : ((j : Int) + 1) < (zs.length : Int) := by omega
        have n3 : (0 : Int) ≤ (j : Int) + 1 := by omega
        obtain ⟨mm, hmm⟩ : ∃ mm, mm = (if 1099511627776 < if vv < 1 then 1 else vv then 1099511627776 else if vv < 1 then 1 else vv) := ⟨_, rfl⟩
        have hmb : 1 ≤ mm ∧ vv ≤ mm ∧ mm ≤ vv + 1 := by rw [hmm]; split <;> split <;> omega
        obtain ⟨u, hu⟩ : ∃ u, u = hverV mm (1 + z2 % 2) := ⟨_, rfl⟩
        have hub := hverV_up mm z2
        rw [← hu] at hub
        have hVu : ∀ w', Calls Try.prog 85 #[.int .i64 (if 1099511627776 < if vv < 1 then 1 else vv then 1099511627776 else if vv < 1 then 1 else vv), .int .i64 (1 + z2 % 2)] w' fun e w'' => e = .returned (.int .i64 u) ∧ w'' = w' := fun w' => by rw [hu, ← hmm]; exact (hVersion_any mm _ w' hmb.1 (by omega)).mono fun _ _ h => ⟨h.1, h.2.symm⟩
        clear hu hmm
        go_wp2_with (go_at_call 22; refine (pick_any _ _ _ (by omega) (by omega)).mono ?_; rintro e w' ⟨rfl, rfl⟩)
        have hw2 : IntKind.i64.wrap (1 + z2 % 2) = 1 + z2 % 2 := IntWalk.i64_in _ (by omega)
        have hP2 : ∀ w', Calls Try.prog 22 #[.int .i64 z2, .int .i64 2] w' fun e w'' => e = .returned (.int .i64 (z2 % 2)) ∧ w'' = w' := fun w' => (pick_any z2 2 w' (by omega) (by omega)).mono fun _ _ h => ⟨h.1, h.2.symm⟩
        obtain ⟨t, ht⟩ : ∃ t, t = IntKind.i64.wrap (z2.tdiv 4) % 3 := ⟨_, rfl⟩
        have ht1 : 0 ≤ t ∧ t < 3 := by rw [ht]; exact ⟨Int.emod_nonneg _ (by omega), Int.emod_lt_of_pos _ (by omega)⟩
        have hP3 : ∀ w', Calls Try.prog 22 #[.int .i64 (IntKind.i64.wrap (z2.tdiv 4)), .int .i64 3] w' fun e w'' => e = .returned (.int .i64 t) ∧ w'' = w' := fun w' => by rw [ht]; exact (pick_any _ 3 w' (by omega) (by omega)).mono fun _ _ h => ⟨h.1, h.2.symm⟩
        clear ht
        have hw5 : IntKind.i64.wrap (t * 10) = t * 10 := IntWalk.i64_in _ (by omega)
        have hw6 : IntKind.i64.wrap (u + t * 10) = u + t * 10 := IntWalk.i64_in _ (by omega)
        go_quiet ((first | (go_at_call 22; with_reducible exact Calls.quiet_of_same (hP3 _)) | (go_at_call 22; with_reducible exact Calls.quiet_of_same (hP2 _)) | (go_at_call 85; with_reducible exact Calls.quiet_of_same (hVu _))))
        have hl1 : k + 1 ≤ maxLen := by simp only [maxLen]; omega
        have hl2 : (k + 1) * 16 ≤ 140737488355328 := by omega
        have hbase : w.heap.size ≤ ((wr.drewN nq).alloc (.cells #[.int .i64 (ii + 1 + z1 % 5), .int .i64 (u + t * 10)] 75)).heap.size := by have := hc.size; simp; omega
        go_wp2_with (at_builtin; refine wpList_append_rd _ rfl (.tmp 76) (.tmp 80) 52 rfl w.heap.size 75 i0 _ 2 16 Try.underlying52 hi hz0 hz1 hz2 rfl (by decide) A5 k c5 (itC L) rfl ((show (wr.drewN nq).ownsRow _ _ _ _ _ _ from ho).alloc _) (some ⟨wr.heap.size, 0, none⟩) 1 1 (itC [(ii + 1 + z1 % 5, u + t * 10)]) rfl rfl (by exact Rd.newRow (wr.drewN nq) _ _ _ rfl) (itC_one _) hl1 hl2 hbase ?_; intro A2 c2 w2 hown2 hg2 hb2)
        go_roundw
        case rel => exact ⟨j + 2, k + 1, by have := HJ.out; omega, Lib.hid (by have := HJ.out; omega), by go_num, L ++ [(ii + 1 + z1 % 5, u + t * 10)], A2, c2, ii + 1 + z1 % 5, u + t * 10, rfl, rfl, rfl, by rw [List.length_append, hL]; rfl, rises_snoc hup (by rw [hlast]; show ii < ii + 1 + z1 % 5; omega) (by rw [hlast]; show vv < u + t * 10; omega), lastOr_snoc _ _ _, by omega, by omega, by omega, by omega, (by
          intro x hx
          rcases List.mem_append.1 hx with hx | hx
          · exact hsm x hx
          · simp only [List.mem_singleton] at hx
            subst hx
            show ii + 1 + z1 % 5 ≤ 30
            have := HJ.out
            omega), by rw [itC_app]; exact hown2, (((hc.drewN nq).alloc _).trans hg2 (fun x hx => .inr (own_lt ho hx).1))⟩
        case measure => simp [intOf]; omega
      · go_wp2_with fail
        go_ret
        exact ⟨L, ⟨hup, by omega, hsm⟩, A5, c5, by rw [hL]; rfl, by unfold OwnIt; rw [hL]; exact ho, hc⟩
    · go_wp2_with fail
      go_ret
      exact ⟨L, ⟨hup, by omega, hsm⟩, A5, c5, by rw [hL]; rfl, by unfold OwnIt; rw [hL]; exact ho, hc⟩
end Go.Proofs.Ytngfimjbgopgjaa
