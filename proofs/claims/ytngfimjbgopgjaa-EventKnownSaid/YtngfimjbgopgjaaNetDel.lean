/- Contract of slices.Delete over packets, one of them. -/
import Derived.Test.YtngfimjbgopgjaaNet
import Derived.Lib.SlicesDelete
import Derived.Sort.WalkB12
namespace Go.Proofs.Ytngfimjbgopgjaa
open Go.RowKit
set_option linter.unusedVariables false

theorem heap_setCells {g : Nat} {T : TypeId} {fr : Nat × Nat} : ∀ (vs : List Value) (o : Nat) (w : World) (cur : Array Value), w.heap[g]? = some (.cells cur T fr) →
    ∃ cur' : Array Value, (w.setCells g o vs).heap[g]? = some (.cells cur' T fr) ∧ cur'.size = cur.size ∧ (o + vs.length ≤ cur.size → cur'.toList = cur.toList.take o ++ vs ++ cur.toList.drop (o + vs.length))
  | [], o, w, cur, h => ⟨cur, h, rfl, fun _ => by simp⟩
  | v :: r, o, w, cur, h => by
    have h1 : (w.setCell ⟨g, o, none⟩ v).heap[g]? = some (.cells (cur.setIfInBounds o v) T fr) := by simp [World.setCell, Array.getElem?_modify, h]
    obtain ⟨cur', h2, h3, h4⟩ := heap_setCells r (o + 1) _ _ h1
    refine ⟨cur', h2, by simpa using h3, fun hl => ?_⟩
    simp only [List.length_cons] at hl
    have h5 := h4 (by simp; omega)
    rw [h5, Array.toList_setIfInBounds]
    have ho : o < cur.toList.length := by simp; omega
    apply List.ext_getElem?
    intro i
    simp only [List.length_cons, List.append_assoc, List.cons_append]
    have e1 : (List.take (o + 1) (cur.toList.set o v)) = cur.toList.take o ++ [v] := by
      rw [List.take_add_one, List.getElem?_set_self ho, List.take_set_of_le (Nat.le_refl _)]
      rfl
    have e2 : (cur.toList.set o v).drop (o + 1 + r.length) = cur.toList.drop (o + (r.length + 1)) := by
      rw [List.drop_set_of_lt (by omega)]
      congr 1
      omega
    rw [e1, e2]
    simp

theorem chg_setCells {S : Nat → Prop} {g : Nat} (hg : S g) : ∀ (vs : List Value) (o : Nat) (w0 w : World), Chg S w0 w → Chg S w0 (w.setCells g o vs)
  | [], _, _, _, h => h
  | v :: r, o, w0, w, h => chg_setCells hg r (o + 1) w0 _ (h.setCell (p := ⟨g, o, none⟩) (.inl hg) v)

theorem run_clear_one {P : Program} (w : World) (t e ty : TypeId) (z : Value) (zs : List Value) (ht : P.underlying t = some (.slice e)) (hv : ∀ w, (zeroValue e).run P w = .ok z w) (hz : (Builtin.zeroCells z.cells 1).toList = zs) (h1 : ∀ u ∈ zs, u.oneCell' = true) (b o c : Nat)
    (hc : ∀ j, j < zs.length → (w.cell? ⟨b, o + j, none⟩).isSome = true) (hf : ∀ j, j < zs.length → w.frozen? ⟨b, o + j, none⟩ = false) :
    (Builtin.clear_ #[t] ty #[.slice (some ⟨b, o, none⟩) 1 c]).run P w = .ok (.tuple #[]) (w.setCells b o zs) := by
  have hst := run_storeCells_cells (P := P) b o zs 0 w (by simpa using hc) (by simpa using hf) h1
  simp only [Nat.add_zero] at hst
  simp [Builtin.clear_, run_underlying ht, hv, hz, hst]

theorem zeroPk (w : World) : (zeroValue 69).run Try.prog w = .ok (.agg #[.int .i64 0, .int .i64 0, .slice none 0 0]) w := by kernel_rfl
theorem zeroPk3 : (Builtin.zeroCells (Value.agg #[.int .i64 0, .int .i64 0, .slice none 0 0]).cells 1).toList = [.int .i64 0, .int .i64 0, .slice none 0 0] := by kernel_rfl

set_option maxHeartbeats 2000000 in
set_option maxRecDepth 100000 in
theorem delete_any (A : Option Addr) (c k j : Nat) (ps : List Pk) (base : Nat) (w : World) (ho : w.ownsRow base 69 3 (.slice A ps.length c) ps.length (pkC ps)) (hk : k < ps.length) (hj : j = k + 1) (hn : ps.length ≤ 1000) :
    Calls Try.prog 109 #[.slice A ps.length c, .int .i64 k, .int .i64 j] w fun e w' => e = .returned (.slice A (ps.length - 1) c) ∧ w'.ownsRow base 69 3 (.slice A (ps.length - 1) c) (ps.length - 1) (pkC (ps.take k ++ ps.drop j)) ∧ Chg (In A) w w' := by
  obtain ⟨i0, hi, hz0, hz1, hz2⟩ := info_parts pkInfo
  obtain ⟨hlen, hor⟩ := ho
  rcases hor with ⟨_, h0⟩ | ⟨g, cap, cur, hv, hb, hg, hnc, hcm, hcs, hct⟩
  · omega
  cases hv
  obtain ⟨n, hn0⟩ : ∃ n, n = ps.length := ⟨_, rfl⟩
  rw [← hn0] at hk hn hlen hnc hct ⊢
  have HN := Lib.hid hn0
  have HJ := Lib.hid hj
  have hjn : j ≤ n := by omega
  have hkj : k < j := by omega
  have hcurl : cur.toList.length = c * 3 := by simpa using hcs
  have hgetc : ∀ i u, (pkC ps)[i]? = some u → w.cell? ⟨g, i, none⟩ = some u := fun i u hu => by
    rw [cell_of_row w g i cur _ (0, 0) hg, ← Array.getElem?_toList]
    rw [← hct, List.getElem?_take] at hu
    split at hu
    · exact hu
    · cases hu
  have hisS : ∀ i, i < c * 3 → (w.cell? ⟨g, i, none⟩).isSome = true := fun i hi => by
    rw [cell_of_row w g i cur _ (0, 0) hg, ← Array.getElem?_toList, List.getElem?_eq_getElem (by omega)]
    rfl
  have hfz : ∀ i, w.frozen? ⟨g, i, none⟩ = false := fun i => by simp [World.frozen?, hg]
  -- the cells that move
  obtain ⟨news, hnews⟩ : ∃ news, news = pkC (ps.drop j) := ⟨_, rfl⟩
  have hnl : news.length = (n - j) * 3 := by rw [hnews, pkC_len, List.length_drop, HN.out]
  obtain ⟨A2, hA2, hsrc⟩ : ∃ A2 : Addr, (if c = j then some (⟨g, 0, none⟩ : Addr) else some ⟨g, j * 3, none⟩) = some A2 ∧ Hid (∀ t u, news[t]? = some u → w.drew.cell? (A2.add t) = some u) := by
    by_cases h : c = j
    · refine ⟨⟨g, 0, none⟩, by simp [h], fun t u hu => ?_⟩
      have h0 : news.length = 0 := by rw [hnl]; omega
      rw [List.length_eq_zero_iff.1 h0] at hu
      simp at hu
    · refine ⟨⟨g, j * 3, none⟩, by simp [h], fun t u hu => ?_⟩
      rw [Addr.add_lit]
      refine hgetc _ _ ?_
      rw [hnews, ← pkC_drop, List.getElem?_drop] at hu
      exact hu
  have s1 : Hid (news.length = (n - j) * 3) := hnl
  have s2 : Hid (∀ u ∈ news, u.oneCell' = true) := by rw [hnews]; exact pkC_one _
  have s3 : Hid (∀ t, t < news.length → (w.drew.cell? ⟨g, 0 + k * 3 + t, none⟩).isSome = true ∧ w.drew.frozen? ⟨g, 0 + k * 3 + t, none⟩ = false) := by
    intro t ht
    rw [hnl] at ht
    exact ⟨hisS _ (by omega), hfz _⟩
  obtain ⟨W1, hW1⟩ : ∃ W1, W1 = w.drew.setCells g (0 + k * 3) news := ⟨_, rfl⟩
  obtain ⟨cur1, hg1, hs1, hl1⟩ := heap_setCells (T := 69) (fr := (0, 0)) news (0 + k * 3) w.drew cur hg
  rw [← hW1] at hg1
  have hl1' := hl1 (by rw [hnl]; omega)
  have hcl1 : cur1.toList.length = c * 3 := by rw [← hcurl]; simpa using hs1
  have hm : n - (k + (n - j)) = 1 := by have := HJ.out; omega
  have hcl : ∀ ty, (Builtin.clear_ #[82] ty #[.slice (some ⟨g, (k + (n - j)) * 3, none⟩) 1 (c - (k + (n - j)))]).run Try.prog W1 = .ok (.tuple #[]) (W1.setCells g ((k + (n - j)) * 3) [.int .i64 0, .int .i64 0, .slice none 0 0]) := fun ty => by
    exact run_clear_one W1 _ _ ty _ _ Try.underlying82 zeroPk zeroPk3 (by intro u hu; simp at hu; rcases hu with rfl | rfl | rfl <;> rfl) g _ _ (fun t ht => by
      rw [cell_of_row W1 g _ cur1 _ (0, 0) hg1, ← Array.getElem?_toList, List.getElem?_eq_getElem (by simp at ht; omega)]; rfl) (fun t ht => by simp [World.frozen?, hg1])
  obtain ⟨cur2, hg2, hs2, hl2⟩ := heap_setCells (T := 69) (fr := (0, 0)) [.int .i64 0, .int .i64 0, .slice none 0 0] ((k + (n - j)) * 3) W1 cur1 hg1
  have hl2' := hl2 (by simp; omega)
  have hfin : Hid (cur2.toList.take ((n - 1) * 3) = pkC (ps.take k ++ ps.drop j)) := Lib.hid (by
    have e1 : (n - 1) * 3 = (k + (n - j)) * 3 := by have := HJ.out; omega
    rw [hl2', e1, List.append_assoc, List.take_left' (by rw [List.length_take, hcl1]; omega), hl1', List.append_assoc, ← List.append_assoc, List.take_left' (by rw [List.length_append, List.length_take, hnl, hcurl]; omega), pkC_app, ← hnews]
    congr 1
    rw [← pkC_take, ← hct, List.take_take, Nat.min_eq_left (by omega), Nat.zero_add])
  have hs22 : Hid (cur2.size = c * 3) := Lib.hid (by rw [hs2, hs1, hcs])
  have hG2 := Lib.hid hg2
  have hWX : Hid (W1 = w.drew.setCells g (0 + k * 3) news) := hW1
  have hic : k ≤ c := by omega
  have hjc : j ≤ c := by omega
  have hjn0 : (k : Int) ≠ (j : Int) := by omega
  have hjn1 : ((k : Int) == (j : Int)) = false := by simp; omega
  have hchg : Hid (Chg (In (some ⟨g, 0, none⟩)) w W1) := Lib.hid (by rw [hW1]; exact chg_setCells (S := In (some ⟨g, 0, none⟩)) rfl _ _ _ _ (Chg.refl _ _).drew)
  clear hW1 hgetc hisS hfz hcurl hg hct hcs hnews hnl hl1 hl1' hl2 hl2' hs1 hs2 hg2 hcl1 hlen hn0 hj
  go_enter Try.func109, Try.ntmps109
  go_wp2_with fail
  go_region_law (refine step_append_room rfl (.tmp 22) (.tmp 25) 82 rfl 69 i0 3 Try.underlying82 hi hz1 g 0 k c (by simp [Act.eval, Act.put]) A2 (n - j) (c - j) news (by simp [Act.eval, Act.put]) s1.out hsrc.out s2.out (by omega) s3.out ?_; rw [← hWX.out])
  go_wp2_with fail
  go_ret
  have e1 : k + (n - j) = n - 1 := by have := HJ.out; omega
  refine ⟨by rw [← e1]; rfl, ⟨by rw [pkC_len, List.length_append, List.length_take, List.length_drop]; have := HJ.out; have := HN.out; omega, .inr ⟨g, c, cur2, rfl, hb, hG2.out, by omega, hcm, hs22.out, hfin.out⟩⟩, chg_setCells (S := In (some ⟨g, 0, none⟩)) rfl _ _ _ _ hchg.out⟩
end Go.Proofs.Ytngfimjbgopgjaa
