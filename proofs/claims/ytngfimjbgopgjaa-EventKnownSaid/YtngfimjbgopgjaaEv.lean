/- Events that bear an ID and a version alone, in memory; contracts of items.Of and of cutoverref8.Of over them. -/
import Derived.Test.YtngfimjbgopgjaaIt
namespace Go.Proofs.Ytngfimjbgopgjaa
open Go.RowKit
set_option linter.unusedVariables false

theorem evInfo : (Try.prog.info? 50).map (fun i => (i.zero, i.size, i.bytes)) = some (some (.agg #[.int .i64 0, .int .i64 0, .int .i64 0, .int .i64 0, .int .i64 0, .int .i64 0, .string ByteArray.empty, .slice none 0 0, .slice none 0 0]), 9, 112) := by kernel_rfl
/-- An event's cells: an ID, a version. -/
def evR (x : It) : List Value := [.int .i64 x.1, .int .i64 x.2, .int .i64 0, .int .i64 0, .int .i64 0, .int .i64 0, .string ByteArray.empty, .slice none 0 0, .slice none 0 0]
def evC : List It → List Value
  | [] => []
  | x :: l => evR x ++ evC l
theorem evC_len (l : List It) : (evC l).length = l.length * 9 := by
  induction l with
  | nil => rfl
  | cons x l ih => simp only [evC, List.length_cons, List.length_append, ih, evR, List.length_nil]; omega
theorem evC_app (l m : List It) : evC (l ++ m) = evC l ++ evC m := by
  induction l with
  | nil => rfl
  | cons x l ih => simp [evC, ih]
theorem evC_one (l : List It) : ∀ u ∈ evC l, u.oneCell' = true := by
  induction l with
  | nil => intro u hu; cases hu
  | cons x l ih =>
    intro u hu
    rcases List.mem_append.1 hu with hu | hu
    · simp only [evR, List.mem_cons, List.not_mem_nil, or_false] at hu
      rcases hu with rfl | rfl | rfl | rfl | rfl | rfl | rfl | rfl | rfl <;> rfl
    · exact ih u hu
theorem evC_get (l : List It) (k j : Nat) (h : k < l.length) (hj : j < 9) : (evC l)[k * 9 + j]? = (evR l[k])[j]? := by
  induction l generalizing k with
  | nil => simp at h
  | cons x l ih =>
    have e : (evR x).length = 9 := rfl
    cases k with
    | zero => rw [evC, Nat.zero_mul, Nat.zero_add, List.getElem?_append_left (by omega)]; rfl
    | succ k => rw [evC, List.getElem?_append_right (by omega), e, show (k + 1) * 9 + j - 9 = k * 9 + j by omega]; exact ih k (by simpa using h)

/-- What the reading of an event asks: its nine cells. -/
theorem ev_cells {w : World} {b o : Nat} {l : List It} (h : Rd w (some ⟨b, o, none⟩) (evC l)) (k : Nat) (hk : k < l.length) :
    w.cell? ⟨b, o + k * 9, none⟩ = some (.int .i64 l[k].1) ∧ w.cell? ⟨b, o + k * 9 + 1, none⟩ = some (.int .i64 l[k].2) ∧ w.cell? ⟨b, o + k * 9 + 2, none⟩ = some (.int .i64 0) ∧ w.cell? ⟨b, o + k * 9 + 3, none⟩ = some (.int .i64 0) ∧
    w.cell? ⟨b, o + k * 9 + 4, none⟩ = some (.int .i64 0) ∧ w.cell? ⟨b, o + k * 9 + 5, none⟩ = some (.int .i64 0) ∧ w.cell? ⟨b, o + k * 9 + 6, none⟩ = some (.string ByteArray.empty) ∧ w.cell? ⟨b, o + k * 9 + 7, none⟩ = some (.slice none 0 0) ∧ w.cell? ⟨b, o + k * 9 + 8, none⟩ = some (.slice none 0 0) := by
  have H : ∀ j, j < 9 → ∀ u, (evR l[k])[j]? = some u → w.cell? ⟨b, o + k * 9 + j, none⟩ = some u := fun j hj u hu => by
    rw [Nat.add_assoc]
    exact h.cells rfl _ _ ((evC_get l k j hk hj).trans hu)
  exact ⟨H 0 (by omega) _ rfl, H 1 (by omega) _ rfl, H 2 (by omega) _ rfl, H 3 (by omega) _ rfl, H 4 (by omega) _ rfl, H 5 (by omega) _ rfl, H 6 (by omega) _ rfl, H 7 (by omega) _ rfl, H 8 (by omega) _ rfl⟩

/-- The items of events, the first one's ID counted up. -/
def ofL (es : List It) : List It := itemsTo (es.headD (0, 0)).1 (es.map (·.2)) es.length

set_option maxHeartbeats 4000000 in
set_option maxRecDepth 20000 in
theorem itemsOf_any (A : Option Addr) (n c : Nat) (es : List It) (w : World) (h : Rd w A (evC es)) (hn : es.length = n) (hb : n ≤ 1048575) (h0 : ∀ x ∈ es, 0 ≤ x.1 ∧ x.1 ≤ 1048576) :
    Calls Try.prog 49 #[.slice A n c] w (GivesIt w (ofL es)) := by
  subst hn
  have HA := Lib.hid h
  clear h
  go_enter Try.func49, Try.ntmps49
  go_wp2_with fail
  obtain ⟨first, hf⟩ : ∃ first, first = (es.headD (0, 0)).1 := ⟨_, rfl⟩
  obtain ⟨vs, hvs⟩ : ∃ vs, vs = es.map (·.2) := ⟨_, rfl⟩
  have hofl : Hid (ofL es = itemsTo first vs es.length) := Lib.hid (by rw [hf, hvs]; rfl)
  have HF := Lib.hid hf
  have HV := Lib.hid hvs
  clear hf hvs
  go_loopw [3, 8] (fun a i wr => ∃ k : Nat, k ≤ es.length ∧ i = .int .i64 k ∧ ∃ A c, a = .slice A (itemsTo first vs k).length c ∧ OwnIt wr w.heap.size A c (itemsTo first vs k) ∧ Chg (fun _ => False) w wr) (fun _ i _ => es.length - (intOf i).toNat)
  case atStart => exact ⟨0, by omega, rfl, none, 0, rfl, World.ownsRow_nil _ _ _ _, Chg.refl _ _⟩
  case round =>
    obtain ⟨k, hk, rfl, A5, c5, rfl, ho, hc⟩ := hrel
    have hlen := itemsTo_len first vs k
    have hnext : Hid (itemsTo first vs (k + 1) = grownL (itemsTo first vs k) (first + k) (vs.getD k 0)) := Lib.hid rfl
    obtain ⟨cur, hcur⟩ : ∃ cur, cur = itemsTo first vs k := ⟨_, rfl⟩
    rw [← hcur] at ho hlen hnext ⊢
    by_cases hkn : k < es.length
    · clear hcur
      obtain ⟨b, o, rfl, _⟩ := HA.out.at_ (k := 0) (by rw [evC_len]; omega)
      have hcells : ∀ w', Chg (fun _ => False) w w' → w'.cell? ⟨b, o, none⟩ = some (.int .i64 first) := fun w' hw => by
        have e : first = (es[0]'(by omega)).1 := by
          rw [HF.out]
          rcases es with _ | ⟨x, es⟩
          · simp at hkn
          · rfl
        have := (ev_cells (HA.out.keep hw (fun _ _ h => h)) 0 (by omega)).1
        rw [e]
        simpa using this
      have p := ev_cells (HA.out.keep hc (fun _ _ h => h)) k hkn
      have hv : vs.getD k 0 = es[k].2 := by rw [HV.out, List.getD_eq_getElem?_getD, List.getElem?_map, List.getElem?_eq_getElem hkn]; rfl
      rw [hv] at hnext
      obtain ⟨f1, f2⟩ : 0 ≤ first ∧ first ≤ 1048576 := by
        rw [HF.out]
        rcases es with _ | ⟨x, es⟩
        · simp at hkn
        · exact h0 x (by simp)
      obtain ⟨x, hx⟩ : ∃ x, x = es[k] := ⟨_, rfl⟩
      rw [← hx] at p hnext
      clear hx hv
      obtain ⟨p0, p1, p2, p3, p4, p5, p6, p7, p8⟩ := p
      have q0 := hcells wr hc
      have hbl : b ≠ wr.heap.size := by have := World.block_lt_of_cell? wr _ q0; simp at this; omega
      go_wp2_with fail
      obtain ⟨g, hg⟩ : ∃ g, g = wr.heap.size := ⟨_, rfl⟩
      obtain ⟨w3, hw3⟩ : ∃ w3, w3 = wr.alloc (.cells #[.int .i64 x.1, .int .i64 x.2, .int .i64 0, .int .i64 0, .int .i64 0, .int .i64 0, .string ByteArray.empty, .slice none 0 0, .slice none 0 0] 50) := ⟨_, rfl⟩
      have g1 : w3.cell? ⟨g, 1, none⟩ = some (.int .i64 x.2) := by rw [hw3, hg]; exact cell_of_row _ _ 1 #[_, _, _, _, _, _, _, _, _] _ (0, 0) (heap_alloc_new wr _)
      have hc3 : Chg (fun _ => False) w w3 := by rw [hw3]; exact hc.alloc _
      have ho3 : OwnIt w3 w.heap.size A5 c5 cur := by rw [hw3]; exact World.ownsRow.alloc ho _
      have hg5 : ¬ In A5 g := fun h => by have := (own_lt ho h).2; omega
      have hsz : w.heap.size ≤ w3.heap.size := hc3.size
      rw [← hw3, ← hg]
      clear hw3 hg hbl p0 p1 p2 p3 p4 p5 p6 p7 p8 q0 ho
      have q0 := hcells w3 hc3
      have ho4 : OwnIt w3.drew w.heap.size A5 c5 cur := ho3
      have hc4 : Chg (fun _ => False) w w3.drew := hc3.drew
      have g4 : w3.drew.cell? ⟨g, 1, none⟩ = some (.int .i64 x.2) := g1
      have q4 : w3.drew.cell? ⟨b, o, none⟩ = some (.int .i64 first) := q0
      have hsz4 : w.heap.size ≤ w3.drew.heap.size := hsz
      have hwr : IntKind.i64.wrap (first + (k : Int)) = first + k := IntWalk.i64_in _ (by omega)
      have n0 : (0 : Int) < (es.length : Int) := by omega
      have n1 : 0 < es.length := by omega
      have n2 : es ≠ [] := by rintro rfl; simp at hkn
      have n3 : ¬ es = [] := n2
      have n4 : (es == []) = false := by simpa using n2
      go_region_held3 (fun w' => w'.cell? ⟨b, o, none⟩ = some (.int .i64 first) ∧ w'.cell? ⟨g, 1, none⟩ = some (.int .i64 x.2)) (first | exact ⟨q4, g4⟩ | exact ⟨q5, g5⟩) (first
        | (go_at_call 104; go_must (refine (grown_any w.heap.size A5 c5 cur (first + k) x.2 w3.drew ho4 (by omega) hsz4).mono ?_; rintro e w5 hgr; obtain ⟨A6, c6, rfl, ho6, hc6⟩ := Grew.own hgr ho4 hc4; obtain ⟨_, _, _, _, hc7, _⟩ := hgr; have q5 := hcells w5 hc6; have g5 := hc7.cell_some (p := ⟨g, 1, none⟩) g4 hg5)))
      go_wp2_with fail
      go_roundw
      case rel => exact ⟨k + 1, by omega, by go_num, A6, c6, by rw [hnext.out], by rw [hnext.out]; exact ho6, hc6⟩
      case measure => simp [intOf]; omega
    · have hkn' : k = es.length := by omega
      subst hkn'
      go_wp2_with fail
      go_ret
      exact ⟨A5, c5, by rw [hofl.out, ← hcur]; rfl, by rw [hofl.out, ← hcur]; exact ho, hc⟩

theorem intInfo : (Try.prog.info? 3).map (fun i => (i.zero, i.size, i.bytes)) = some (some (.int .i64 0), 1, 8) := by kernel_rfl
theorem ints_one (l : List Int) : ∀ u ∈ l.map (Value.int .i64), u.oneCell' = true := by
  intro u hu
  obtain ⟨x, _, rfl⟩ := List.mem_map.1 hu
  rfl
theorem take_map_snoc (es : List It) (k : Nat) (h : k < es.length) : (es.take (k + 1)).map (fun x => x.2) = (es.take k).map (fun x => x.2) ++ [es[k].2] := by
  rw [List.take_add_one, List.getElem?_eq_getElem h, List.map_append]
  rfl

set_option maxHeartbeats 4000000 in
set_option maxRecDepth 20000 in
theorem refOf_any (A : Option Addr) (n c : Nat) (es : List It) (w : World) (h : Rd w A (evC es)) (hn : es.length = n) (hb : n ≤ 1048575) (h0 : ∀ x ∈ es, 0 ≤ x.1 ∧ x.1 ≤ 1048576) :
    Calls Try.prog 50 #[.slice A n c] w (GivesIt w (ofL es)) := by
  subst hn
  have HA := Lib.hid h
  clear h
  obtain ⟨i0, hi, hz0, hz1, hz2⟩ := info_parts intInfo
  go_enter Try.func50, Try.ntmps50
  go_wp2_with fail
  go_loopw [3, 4] (fun a i wr => ∃ k : Nat, k ≤ es.length ∧ i = .int .i64 k ∧ ∃ A c, a = .slice A k c ∧ wr.ownsRow w.heap.size 3 1 (.slice A k c) k (((es.take k).map (fun x => x.2)).map (Value.int .i64)) ∧ Chg (fun _ => False) w wr) (fun _ i _ => es.length - (intOf i).toNat)
  case atStart => exact ⟨0, by omega, rfl, none, 0, rfl, World.ownsRow_nil _ _ _ _, Chg.refl _ _⟩
  case round =>
    obtain ⟨k, hk, rfl, A5, c5, rfl, ho, hc⟩ := hrel
    by_cases hkn : k < es.length
    · obtain ⟨b, o, rfl, _⟩ := HA.out.at_ (k := 0) (by rw [evC_len]; omega)
      have p := ev_cells (HA.out.keep hc (fun _ _ h => h)) k hkn
      have hsn := Lib.hid (take_map_snoc es k hkn)
      obtain ⟨x, hx⟩ : ∃ x, x = es[k] := ⟨_, rfl⟩
      rw [← hx] at p hsn
      clear hx
      obtain ⟨p0, p1, p2, p3, p4, p5, p6, p7, p8⟩ := p
      clear p0 p2 p3 p4 p5 p6 p7 p8
      have hl1 : k + 1 ≤ maxLen := by simp only [maxLen]; omega
      have hl2 : (k + 1) * 8 ≤ 140737488355328 := by omega
      have hbase : w.heap.size ≤ (wr.alloc (.cells #[.int .i64 x.2] 3)).heap.size := by have := hc.size; simp; omega
      go_wp2_with (at_builtin; refine wpList_append_rd _ rfl (.tmp 11) (.tmp 17) 45 rfl w.heap.size 3 i0 _ 1 8 Try.underlying45 hi hz0 hz1 hz2 rfl (by decide) A5 k c5 (((es.take k).map (fun x => x.2)).map (Value.int .i64)) rfl ((show wr.ownsRow _ _ _ _ _ _ from ho).alloc _) (some ⟨wr.heap.size, 0, none⟩) 1 1 [.int .i64 x.2] rfl rfl (Rd.new1 _ _ _) (one1 _ rfl) hl1 hl2 hbase ?_; intro A2 c2 w2 hown2 hg2 hb2)
      go_roundw
      case rel => exact ⟨k + 1, by omega, by go_num, A2, c2, rfl, by rw [hsn.out, List.map_append]; exact hown2, ((hc.alloc _).trans hg2 (fun x hx => .inr (own_lt ho hx).1))⟩
      case measure => simp [intOf]; omega
    · have hkn' : k = es.length := by omega
      subst hkn'
      rw [List.take_length] at ho
      rcases es with _ | ⟨x, es⟩
      · go_wp2_with fail
        go_ret
        exact ⟨none, 0, rfl, World.ownsRow_nil _ _ _ _, hc⟩
      · obtain ⟨b, o, rfl, _⟩ := HA.out.at_ (k := 0) (by rw [evC_len]; simp)
        have q0 := (ev_cells (HA.out.keep hc (fun _ _ h => h)) 0 (by simp)).1
        rw [Nat.zero_mul, Nat.add_zero, List.getElem_cons_zero] at q0
        obtain ⟨f1, f2⟩ := h0 x (by simp)
        have hrd := Rd.of_own ho
        have hn1 : (x :: es).length ≤ 1048576 := by omega
        have hn0 : ((x :: es).map (fun x => x.2)).length = (x :: es).length := by simp
        obtain ⟨vs, hvs⟩ : ∃ vs, vs = (x :: es).map (fun x => x.2) := ⟨_, rfl⟩
        have HO : Hid (ofL (x :: es) = itemsTo x.1 vs (x :: es).length) := Lib.hid (by rw [hvs]; rfl)
        rw [← hvs] at ho hrd hn0
        have hpos : 0 < (x :: es).length := by simp
        obtain ⟨n, hn⟩ : ∃ n, n = (x :: es).length := ⟨_, rfl⟩
        rw [← hn] at ho hn1 hn0 hpos HO ⊢
        have e0 : ((n : Int) == 0) = false := by simp; omega
        have e1 : ¬ n = 0 := by omega
        have e2 : (0 : Int) < (n : Int) := by omega
        clear hvs hn HA h0 hkn hk hb
        go_wp2_with (go_at_call 105; refine (refItems_any A5 n c5 vs x.1 _ hrd hn0 hn1 f1 f2).mono ?_; rintro e w5 ⟨A6, c6, rfl, ho6, hc6⟩)
        go_ret
        exact ⟨A6, c6, by rw [HO.out]; rfl, by rw [HO.out]; exact ⟨ho6.1, by
          rcases ho6.2 with h | ⟨g, cap, cur, h1, h2, h3⟩
          · exact .inl h
          · exact .inr ⟨g, cap, cur, h1, Nat.le_trans hc.size h2, h3⟩⟩, hc.trans hc6 (fun x hx => hx.elim)⟩
end Go.Proofs.Ytngfimjbgopgjaa
