/- ItemsOf: the walk of cutoverlaw9.ItemsOf: it answers true, and turns nothing that was there. -/
import Derived.Test.YtngfimjbgopgjaaOctKnown
import Derived.Test.YtngfimjbgopgjaaArgs
import Derived.Test.YtngfimjbgopgjaaVer
import Derived.Test.YtngfimjbgopgjaaEv
import Derived.Test.YtngfimjbgopgjaaItKnown9
namespace Go.Proofs.Ytngfimjbgopgjaa.itemsOf
open Go.RowKit
set_option linter.unusedVariables false

theorem own_mono {w : World} {base base' : Nat} {e : TypeId} {size n : Nat} {v : Value} {xs : List Value} (h : w.ownsRow base e size v n xs) (hb : base' ≤ base) : w.ownsRow base' e size v n xs := by
  refine ⟨h.1, ?_⟩
  rcases h.2 with h | ⟨g, cap, cur, h1, h2, h3⟩
  · exact .inl h
  · exact .inr ⟨g, cap, cur, h1, Nat.le_trans hb h2, h3⟩

set_option maxHeartbeats 4000000 in
set_option maxRecDepth 20000 in
theorem walk (w : World) (a0 : Int) (w0 : (Lit.int .i64 a0).wf = true) (a1 : Option Addr) (len1 cap1 : Nat) (h1 : Ints w a1 len1 cap1) : Calls Try.prog 8 #[.int .i64 a0, .slice a1 len1 cap1] w (SaysTrue w) := by
  obtain ⟨zs, rfl, hlc, hcm, hlm, hrd, hwf⟩ := h1
  obtain ⟨i0, hi, hz0, hz1, hz2⟩ := info_parts evInfo
  have f1 := Int.emod_nonneg a0 (by omega : (20 : Int) ≠ 0)
  have f2 := Int.emod_lt_of_pos a0 (by omega : (0 : Int) < 20)
  have hln : zs.length ≤ 17592186044416 := hlm
  go_enter Try.func8, Try.ntmps8
  go_wp2_with (go_at_call 22; refine (pick_any _ _ _ (by omega) (by omega)).mono ?_; rintro e w' ⟨rfl, rfl⟩)
  obtain ⟨first, hf⟩ : ∃ first, first = a0 % 20 := ⟨_, rfl⟩
  rw [← hf] at f1 f2 ⊢
  clear hf
  go_loopw [5, 6] (fun a i wr => ∃ k : Nat, k ≤ zs.length ∧ k ≤ 40 ∧ i = .int .i64 k ∧ ∃ (es : List It) (A : Option Addr) (c : Nat), a = .slice A k c ∧ es.length = k ∧ (∀ x ∈ es, 0 ≤ x.1 ∧ x.1 ≤ 1048576) ∧ wr.ownsRow w.heap.size 50 9 (.slice A k c) k (evC es) ∧ Chg (fun _ => False) w wr) (fun _ i _ => 40 - (intOf i).toNat)
  case atStart => exact ⟨0, by omega, by omega, rfl, [], none, 0, rfl, rfl, (by intro x hx; cases hx), World.ownsRow_nil _ _ _ _, Chg.refl _ _⟩
  case round =>
    obtain ⟨k, hk, hk4, rfl, es, A5, c5, rfl, hes, hall, ho, hc⟩ := hrel
    by_cases hkn : k < zs.length
    · by_cases h40 : k < 40
      · obtain ⟨b, o, rfl, hq⟩ := (hrd.keep hc (fun _ _ h => h)).at_ (k := k) (by simpa using hkn)
        rw [List.getElem_map] at hq
        obtain ⟨z, hz⟩ : ∃ z, z = zs[k] := ⟨_, rfl⟩
        rw [← hz] at hq
        clear hz
        have z1 := Int.emod_nonneg z (by omega : (3 : Int) ≠ 0)
        have z2 := Int.emod_lt_of_pos z (by omega : (0 : Int) < 3)
        have hl1 : k + 1 ≤ maxLen := by simp only [maxLen]; omega
        have hl2 : (k + 1) * 112 ≤ 140737488355328 := by omega
        have hbase : w.heap.size ≤ (wr.alloc (.cells #[.int .i64 (1 + first + k), .int .i64 (1 + z % 3), .int .i64 0, .int .i64 0, .int .i64 0, .int .i64 0, .string ByteArray.empty, .slice none 0 0, .slice none 0 0] 50)).heap.size := by have := hc.size; simp; omega
        have hln5 : (evC es).length = k * 9 := by rw [evC_len, hes]
        go_wp2_with (first
          | (go_at_call 22; refine (pick_any _ _ _ (by omega) (by omega)).mono ?_; rintro e w' ⟨rfl, rfl⟩)
          | (at_builtin; refine wpList_append_rd _ rfl (.tmp 20) (.tmp 31) 47 rfl w.heap.size 50 i0 _ 9 112 Try.underlying47 hi hz0 hz1 hz2 rfl (by decide) A5 k c5 (evC es) rfl ((show wr.ownsRow _ _ _ _ _ _ from ho).alloc _) (some ⟨wr.heap.size, 0, none⟩) 1 1 (evC [(1 + first + k, 1 + z % 3)]) rfl rfl (Rd.newRow _ _ _ _ rfl) (evC_one _) hl1 hl2 hbase ?_; intro A2 c2 w2 hown2 hg2 hb2))
        go_roundw
        case rel => exact ⟨k + 1, by omega, by omega, by go_num, es ++ [(1 + first + k, 1 + z % 3)], A2, c2, rfl, by rw [List.length_append, hes]; rfl, (by
          intro x hx
          rcases List.mem_append.1 hx with hx | hx
          · exact hall x hx
          · simp only [List.mem_singleton] at hx
            subst hx
            exact ⟨by show 0 ≤ 1 + first + (k : Int); omega, by show 1 + first + (k : Int) ≤ 1048576; omega⟩), by rw [evC_app]; exact hown2, ((hc.alloc _).trans hg2 (fun x hx => .inr (own_lt ho hx).1))⟩
        case measure => simp [intOf]; omega
      · have hk40 : k = 40 := by omega
        subst hk40
        have hol : (ofL es).length ≤ 40 := by have := itemsTo_len (es.headD (0, 0)).1 (es.map (fun x => x.2)) es.length; unfold ofL; omega
        have hE : ∀ w', Chg (fun _ => False) wr w' → Rd w' A5 (evC es) := fun w' hw => (Rd.of_own ho).keep hw (fun _ _ h => h)
        have hkb : 40 ≤ 1048575 := by omega
        have hob : (ofL es).length ≤ 1048576 := by omega
        obtain ⟨L, hL⟩ : ∃ L, L = ofL es := ⟨_, rfl⟩
        have HL := Lib.hid hL
        rw [← hL] at hob
        clear hrd ho hwf hol hL
        go_wp2_with (first
          | (go_at_call 47; go_must (refine (known9_any wr).mono ?_; rintro e w1 ⟨rfl, hc1⟩))
          | (go_at_call 49; go_must (refine (itemsOf_any A5 40 c5 es w1 (hE w1 hc1) hes hkb hall).mono ?_; rintro e w2 ⟨A6, c6, rfl, ho6, hc2⟩; rw [← HL.out] at ho6; rw [← HL.out]))
          | (go_at_call 50; go_must (refine (refOf_any A5 40 c5 es w2 (hE w2 (hc1.trans hc2 (fun x hx => hx.elim))) hes hkb hall).mono ?_; rintro e w3 ⟨A7, c7, rfl, ho7, hc3⟩; rw [← HL.out] at ho7; rw [← HL.out]))
          | (go_at_call 48; go_must (refine (same_any A6 A7 L.length L.length c6 c7 L L w3 (ho6.rd.keep hc3 (fun _ _ h => h)) ho7.rd rfl rfl hob hob).mono ?_; rintro e w4 ⟨rfl, hc4⟩; rw [decide_eq_true (Eq.refl L)])))
        go_ret
        exact ⟨rfl, (((hc.trans hc1 (fun x hx => hx.elim)).trans hc2 (fun x hx => hx.elim)).trans hc3 (fun x hx => hx.elim)).trans hc4 (fun x hx => hx.elim)⟩
    · have hk40 : k = zs.length := by omega
      clear hrd hwf hlm hlc hcm
      generalize zs.length = n at *
      subst hk40
      have hol : (ofL es).length ≤ 40 := by have := itemsTo_len (es.headD (0, 0)).1 (es.map (fun x => x.2)) es.length; unfold ofL; omega
      have hE : ∀ w', Chg (fun _ => False) wr w' → Rd w' A5 (evC es) := fun w' hw => (Rd.of_own ho).keep hw (fun _ _ h => h)
      have hkb : k ≤ 1048575 := by omega
      have hob : (ofL es).length ≤ 1048576 := by omega
      obtain ⟨L, hL⟩ : ∃ L, L = ofL es := ⟨_, rfl⟩
      have HL := Lib.hid hL
      rw [← hL] at hob
      clear ho hol hL
      go_wp2_with (first
        | (go_at_call 47; go_must (refine (known9_any wr).mono ?_; rintro e w1 ⟨rfl, hc1⟩))
        | (go_at_call 49; go_must (refine (itemsOf_any A5 k c5 es w1 (hE w1 hc1) hes hkb hall).mono ?_; rintro e w2 ⟨A6, c6, rfl, ho6, hc2⟩; rw [← HL.out] at ho6; rw [← HL.out]))
        | (go_at_call 50; go_must (refine (refOf_any A5 k c5 es w2 (hE w2 (hc1.trans hc2 (fun x hx => hx.elim))) hes hkb hall).mono ?_; rintro e w3 ⟨A7, c7, rfl, ho7, hc3⟩; rw [← HL.out] at ho7; rw [← HL.out]))
        | (go_at_call 48; go_must (refine (same_any A6 A7 L.length L.length c6 c7 L L w3 (ho6.rd.keep hc3 (fun _ _ h => h)) ho7.rd rfl rfl hob hob).mono ?_; rintro e w4 ⟨rfl, hc4⟩; rw [decide_eq_true (Eq.refl L)])))
      go_ret
      exact ⟨rfl, (((hc.trans hc1 (fun x hx => hx.elim)).trans hc2 (fun x hx => hx.elim)).trans hc3 (fun x hx => hx.elim)).trans hc4 (fun x hx => hx.elim)⟩
end Go.Proofs.Ytngfimjbgopgjaa.itemsOf
