/- Items: lists of api.Item in memory, and the contracts of items.grown, of cutoverref8.items, SameItems, Last. -/
import Derived.Test.YtngfimjbgopgjaaChecked
import Derived.Test.YtngfimjbgopgjaaMem
import Derived.Test.YtngfimjbgopgjaaArgs
import Derived.WalkLawsBesides
import Derived.Lib.SmallJoins
import Derived.Handy
import Derived.Outline
import Derived.Deep.RegionLaw
import Derived.Deep.DeepCutAuto
import Derived.Deep.LoopGhost
import Derived.BigQuiet
import Derived.Deep.QuietTactic
import Derived.Deep.RegionWith
import Derived.Deep.RegionHeld3
import Derived.Deep.DeepMust
namespace Go.Proofs.Ytngfimjbgopgjaa
open Go.RowKit
set_option linter.unusedVariables false

theorem itemInfo : (Try.prog.info? 75).map (fun i => (i.zero, i.size, i.bytes)) = some (some (.agg #[.int .i64 0, .int .i64 0]), 2, 16) := by kernel_rfl

/-- An item: its event's ID, its version. -/
abbrev It := Int × Int
/-- Items, cell by cell. -/
def itC : List It → List Value
  | [] => []
  | x :: l => .int .i64 x.1 :: .int .i64 x.2 :: itC l
theorem itC_len (l : List It) : (itC l).length = l.length * 2 := by
  induction l with
  | nil => rfl
  | cons x l ih => simp only [itC, List.length_cons, ih]; omega
theorem itC_app (l m : List It) : itC (l ++ m) = itC l ++ itC m := by
  induction l with
  | nil => rfl
  | cons x l ih => simp [itC, ih]
theorem itC_one (l : List It) : ∀ u ∈ itC l, u.oneCell' = true := by
  induction l with
  | nil => intro u hu; cases hu
  | cons x l ih =>
    intro u hu
    simp only [itC, List.mem_cons] at hu
    rcases hu with rfl | rfl | hu
    · rfl
    · rfl
    · exact ih u hu
theorem itC_id (l : List It) (k : Nat) (h : k < l.length) : (itC l)[k * 2]? = some (.int .i64 l[k].1) := by
  induction l generalizing k with
  | nil => simp at h
  | cons x l ih =>
    cases k with
    | zero => rfl
    | succ k =>
      rw [show (k + 1) * 2 = k * 2 + 1 + 1 by omega]
      simpa [itC] using ih k (by simpa using h)
theorem itC_ver (l : List It) (k : Nat) (h : k < l.length) : (itC l)[k * 2 + 1]? = some (.int .i64 l[k].2) := by
  induction l generalizing k with
  | nil => simp at h
  | cons x l ih =>
    cases k with
    | zero => rfl
    | succ k =>
      rw [show (k + 1) * 2 + 1 = k * 2 + 1 + 1 + 1 by omega]
      simpa [itC] using ih k (by simpa using h)
theorem itC_set (l : List It) (y : It) (id : Int) : (itC (l ++ [y])).set (l.length * 2) (.int .i64 id) = itC (l ++ [(id, y.2)]) := by
  rw [itC_app, itC_app, List.set_append_right _ _ (by rw [itC_len]; exact Nat.le_refl _), itC_len, Nat.sub_self]
  rfl

/-- A list of items of the call's own. -/
def OwnIt (w : World) (base : Nat) (A : Option Addr) (c : Nat) (l : List It) : Prop := w.ownsRow base 75 2 (.slice A l.length c) l.length (itC l)
/-- A list of items that reads so. -/
def RdIt (w : World) (A : Option Addr) (l : List It) : Prop := Rd w A (itC l)
theorem OwnIt.rd {w : World} {base c : Nat} {A : Option Addr} {l : List It} (h : OwnIt w base A c l) : RdIt w A l := Rd.of_own h

/-- An event more: the last item grows, or a new one comes. -/
def grownL (l : List It) (id v : Int) : List It :=
  match l.getLast? with
  | some y => if y.2 = v then l.dropLast ++ [(id, v)] else l ++ [(id, v)]
  | none => [(id, v)]
theorem grownL_nil (id v : Int) : grownL [] id v = [(id, v)] := rfl
theorem grownL_last (l : List It) (y : It) (id v : Int) : grownL (l ++ [y]) id v = if y.2 = v then l ++ [(id, v)] else l ++ [y] ++ [(id, v)] := by
  simp [grownL]
theorem grownL_len (l : List It) (id v : Int) : (grownL l id v).length ≤ l.length + 1 := by
  rcases List.eq_nil_or_concat l with rfl | ⟨l, y, rfl⟩
  · simp [grownL_nil]
  · rw [List.concat_eq_append, grownL_last]
    split <;> simp

/-- What a growing list leaves: its own block alone has turned, the list lies where it lay or in a new block. -/
def Grew (w w' : World) (base : Nat) (A : Option Addr) (l : List It) (e : Ending) : Prop :=
  ∃ A' c', e = .returned (.slice A' l.length c') ∧ OwnIt w' base A' c' l ∧ Chg (In A) w w' ∧ (blk A' = blk A ∨ ∃ g, blk A' = some g ∧ w.heap.size ≤ g)

theorem grown_any (base : Nat) (A : Option Addr) (c : Nat) (l : List It) (id v : Int) (w : World) (h : OwnIt w base A c l) (hb : l.length ≤ 1048576) (hbase : base ≤ w.heap.size) :
    Calls Try.prog 104 #[.slice A l.length c, .int .i64 id, .int .i64 v] w fun e w' => Grew w w' base A (grownL l id v) e := by
  obtain ⟨i0, hi, hz0, hz1, hz2⟩ := info_parts itemInfo
  have hl1 : l.length + 1 ≤ maxLen := by simp only [maxLen]; omega
  have hl2 : (l.length + 1) * 16 ≤ 140737488355328 := by omega
  unfold OwnIt at h
  rcases List.eq_nil_or_concat l with rfl | ⟨l, y, rfl⟩
  · go_enter Try.func104, Try.ntmps104
    go_wp2_with (at_builtin; refine wpList_append_rd _ rfl (.tmp 29) (.tmp 33) 52 rfl base 75 i0 _ 2 16 Try.underlying52 hi hz0 hz1 hz2 rfl (by decide) A 0 c [] rfl (h.alloc _) (some ⟨w.heap.size, 0, none⟩) 1 1 (itC [(id, v)]) rfl rfl (Rd.newRow _ _ _ _ rfl) (itC_one _) hl1 hl2 (by simp; omega) ?_; intro A2 c2 w2 hown2 hg2 hb2)
    go_ret
    exact ⟨A2, c2, rfl, hown2, ((Chg.refl _ _).alloc _).trans hg2 (fun x hx => .inl hx), by rcases hb2 with e | e <;> simp [e]⟩
  · rw [List.concat_eq_append] at h hb hl1 hl2 ⊢
    obtain ⟨g, cap, hv⟩ := Joins.ownsRow_form h (by simp)
    cases hv
    rw [List.length_append, List.length_singleton] at h hb hl1 hl2 ⊢
    have q1 := h.cellAt (l.length * 2 + 1) (by omega)
    rw [itC_ver (l ++ [y]) l.length (by simp)] at q1
    have q2 := h.frozenAt (l.length * 2)
    have q3 := h.cellAt (l.length * 2) (by omega)
    rw [itC_id (l ++ [y]) l.length (by simp)] at q3
    simp only [List.getElem_append_right (Nat.le_refl _), Nat.sub_self, List.getElem_singleton] at q1 q3
    have q4 := h.stored (l.length * 2) (.int .i64 id)
    rw [itC_set] at q4
    rw [grownL_last]
    have n1 : (0 : Int) ≤ (l.length : Int) := by omega
    have n2 : ((l.length : Int) + 1 - 1) = l.length := by omega
    by_cases hyv : y.2 = v
    · rw [if_pos hyv]
      subst hyv
      clear hl1 hl2
      go_enter Try.func104, Try.ntmps104
      go_wp2_with fail
      go_ret
      exact ⟨_, c, by simp, by unfold OwnIt; rw [List.length_append]; exact q4.1, (Chg.refl (In (some ⟨g, 0, none⟩)) w).setCell (p := ⟨g, l.length * 2, none⟩) (.inl rfl) _, .inl rfl⟩
    · rw [if_neg hyv]
      have hd : decide (y.2 = v) = false := by simpa using hyv
      have hd2 : (y.2 == v) = false := by simpa using hyv
      go_enter Try.func104, Try.ntmps104
      go_wp2_with (at_builtin; refine wpList_append_rd _ rfl (.tmp 29) (.tmp 33) 52 rfl base 75 i0 _ 2 16 Try.underlying52 hi hz0 hz1 hz2 rfl (by decide) (some ⟨g, 0, none⟩) (l.length + 1) c (itC (l ++ [y])) rfl (h.alloc _) (some ⟨w.heap.size, 0, none⟩) 1 1 (itC [(id, v)]) rfl rfl (Rd.newRow _ _ _ _ rfl) (itC_one _) hl1 hl2 (by simp; omega) ?_; intro A2 c2 w2 hown2 hg2 hb2)
      go_ret
      refine ⟨A2, c2, by simp, ?_, ((Chg.refl _ _).alloc _).trans hg2 (fun x hx => .inl hx), by rcases hb2 with e | e <;> simp [e]⟩
      unfold OwnIt
      rw [itC_app (l ++ [y]), List.length_append, List.length_append]
      exact hown2

/-- The items of the first k versions, the first event's ID told. -/
def itemsTo (first : Int) (vs : List Int) : Nat → List It
  | 0 => []
  | k + 1 => grownL (itemsTo first vs k) (first + k) (vs.getD k 0)
theorem itemsTo_len (first : Int) (vs : List Int) (k : Nat) : (itemsTo first vs k).length ≤ k := by
  induction k with
  | zero => simp [itemsTo]
  | succ k ih => have := grownL_len (itemsTo first vs k) (first + k) (vs.getD k 0); simp only [itemsTo]; omega

/-- A new list of items, as the one result; nothing that was there has turned. -/
def GivesIt (w : World) (l : List It) (e : Ending) (w' : World) : Prop :=
  ∃ A c, e = .returned (.slice A l.length c) ∧ OwnIt w' w.heap.size A c l ∧ Chg (fun _ => False) w w'

/-- A growing list of the call's own. -/
theorem Grew.own {w0 w w' : World} {A : Option Addr} {c : Nat} {l0 l : List It} {e : Ending} (h : Grew w w' w0.heap.size A l e) (ho : OwnIt w w0.heap.size A c l0) (hc : Chg (fun _ => False) w0 w) :
    ∃ A' c', e = .returned (.slice A' l.length c') ∧ OwnIt w' w0.heap.size A' c' l ∧ Chg (fun _ => False) w0 w' := by
  obtain ⟨A', c', e, h1, h2, _⟩ := h
  exact ⟨A', c', e, h1, hc.trans h2 (fun x hx => .inr (own_lt ho hx).1)⟩

set_option maxHeartbeats 2000000 in
set_option maxRecDepth 20000 in
theorem refItems_any (V : Option Addr) (n d : Nat) (vs : List Int) (first : Int) (w : World) (hv : Rd w V (vs.map (Value.int .i64))) (hn : vs.length = n) (hb : n ≤ 1048576) (h0 : 0 ≤ first) (h1 : first ≤ 1048576) :
    Calls Try.prog 105 #[.slice V n d, .int .i64 first] w (GivesIt w (itemsTo first vs n)) := by
  obtain ⟨i0, hi, hz0, hz1, hz2⟩ := info_parts itemInfo
  subst hn
  have HV := Lib.hid hv
  clear hv
  go_enter Try.func105, Try.ntmps105
  go_wp2_with fail
  go_loopw [5, 6] (fun a i wr => ∃ k : Nat, k ≤ vs.length ∧ i = .int .i64 k ∧ ∃ A c, a = .slice A (itemsTo first vs k).length c ∧ OwnIt wr w.heap.size A c (itemsTo first vs k) ∧ Chg (fun _ => False) w wr) (fun _ i _ => vs.length - (intOf i).toNat)
  case atStart => exact ⟨0, by omega, rfl, none, 0, rfl, World.ownsRow_nil _ _ _ _, Chg.refl _ _⟩
  case round =>
    obtain ⟨k, hk, rfl, A, c, rfl, ho, hc⟩ := hrel
    have hlen := itemsTo_len first vs k
    have hnext : Hid (itemsTo first vs (k + 1) = grownL (itemsTo first vs k) (first + k) (vs.getD k 0)) := Lib.hid rfl
    obtain ⟨cur, hcur⟩ : ∃ cur, cur = itemsTo first vs k := ⟨_, rfl⟩
    rw [← hcur] at ho hlen hnext ⊢
    by_cases hkn : k < vs.length
    · clear hcur
      obtain ⟨b, o, rfl, hq⟩ := (HV.out.keep hc (fun _ _ h => h)).at_ (k := k) (by simpa using hkn)
      rw [List.getElem_map] at hq
      rw [List.getD_eq_getElem?_getD, List.getElem?_eq_getElem hkn, Option.getD_some] at hnext
      obtain ⟨v, hv⟩ : ∃ v, v = vs[k] := ⟨_, rfl⟩
      rw [← hv] at hq hnext
      clear hv
      have hl1 : cur.length + 1 ≤ maxLen := by simp only [maxLen]; omega
      have hl2 : (cur.length + 1) * 16 ≤ 140737488355328 := by omega
      unfold OwnIt at ho
      rcases List.eq_nil_or_concat cur with rfl | ⟨l, y, rfl⟩
      · have hnew : itemsTo first vs (k + 1) = [(first + k, v)] := hnext.out
        go_wp2_with fail
        go_quiet (fail)
        have hbase : w.heap.size ≤ ((wr.drewN nq).alloc (.cells #[.int .i64 (first + k), .int .i64 v] 75)).heap.size := by have := hc.size; simp; omega
        go_wp2_with (at_builtin; refine wpList_append_rd _ rfl (.tmp 39) (.tmp 48) 52 rfl w.heap.size 75 i0 _ 2 16 Try.underlying52 hi hz0 hz1 hz2 rfl (by decide) A 0 c [] rfl ((show (wr.drewN nq).ownsRow _ _ _ _ _ _ from ho).alloc _) (some ⟨wr.heap.size, 0, none⟩) 1 1 (itC [(first + k, v)]) rfl rfl (by exact Rd.newRow (wr.drewN nq) _ _ _ rfl) (itC_one _) hl1 hl2 hbase ?_; intro A2 c2 w2 hown2 hg2 hb2)
        go_roundw
        case rel => exact ⟨k + 1, by omega, by go_num, A2, c2, by rw [hnew]; rfl, by rw [hnew]; exact hown2, (((hc.drewN nq).alloc _).trans hg2 (fun x hx => .inr (own_lt ho hx).1))⟩
        case measure => simp [intOf]; omega
      · rw [List.concat_eq_append] at *
        obtain ⟨g, cap, hv⟩ := Joins.ownsRow_form ho (by simp)
        cases hv
        have hnew := hnext.out
        rw [grownL_last] at hnew
        rw [List.length_append, List.length_singleton] at ho hl1 hl2 hlen ⊢
        have q1 := ho.cellAt (l.length * 2 + 1) (by omega)
        rw [itC_ver (l ++ [y]) l.length (by simp)] at q1
        simp only [List.getElem_append_right (Nat.le_refl _), Nat.sub_self, List.getElem_singleton] at q1
        have q2 := ho.frozenAt (l.length * 2)
        have q3 := ho.cellAt (l.length * 2) (by omega)
        rw [itC_id (l ++ [y]) l.length (by simp)] at q3
        have q4 := ho.stored (l.length * 2) (.int .i64 (first + k))
        rw [itC_set] at q4
        by_cases hyv : y.2 = v
        · rw [if_pos hyv] at hnew
          subst hyv
          go_wp2_with fail
          go_quiet (fail)
          go_wp2_with fail
          go_roundw
          case rel => exact ⟨k + 1, by omega, by go_num, some ⟨g, 0, none⟩, c, by rw [hnew]; simp, by rw [hnew]; unfold OwnIt; rw [List.length_append]; exact q4.1, (hc.drewN nq).setCell (p := ⟨g, l.length * 2, none⟩) (.inr (own_lt ho rfl).1) _⟩
          case measure => simp [intOf]; omega
        · rw [if_neg hyv] at hnew
          have hd : decide (y.2 = v) = false := by simpa using hyv
          have hd2 : (y.2 == v) = false := by simpa using hyv
          go_wp2_with fail
          go_quiet (fail)
          have hbase : w.heap.size ≤ ((wr.drewN nq).alloc (.cells #[.int .i64 (first + k), .int .i64 v] 75)).heap.size := by have := hc.size; simp; omega
          go_wp2_with (at_builtin; refine wpList_append_rd _ rfl (.tmp 39) (.tmp 48) 52 rfl w.heap.size 75 i0 _ 2 16 Try.underlying52 hi hz0 hz1 hz2 rfl (by decide) (some ⟨g, 0, none⟩) (l.length + 1) c (itC (l ++ [y])) rfl ((show (wr.drewN nq).ownsRow _ _ _ _ _ _ from ho).alloc _) (some ⟨wr.heap.size, 0, none⟩) 1 1 (itC [(first + k, v)]) rfl rfl (by exact Rd.newRow (wr.drewN nq) _ _ _ rfl) (itC_one _) hl1 hl2 hbase ?_; intro A2 c2 w2 hown2 hg2 hb2)
          go_roundw
          case rel => exact ⟨k + 1, by omega, by go_num, A2, c2, by rw [hnew]; simp, by rw [hnew]; unfold OwnIt; rw [itC_app (l ++ [y]), List.length_append, List.length_append]; exact hown2, (((hc.drewN nq).alloc _).trans hg2 (fun x hx => .inr (own_lt ho hx).1))⟩
          case measure => simp [intOf]; omega
    · have hkn' : k = vs.length := by omega
      subst hkn'
      go_wp2_with fail
      go_ret
      exact ⟨A, c, by rw [← hcur]; rfl, by rw [← hcur]; exact ho, hc⟩

/-- Two lists of items: the same ones? -/
theorem same_any (A B : Option Addr) (n m c d : Nat) (l l' : List It) (w : World) (ha : RdIt w A l) (hb : RdIt w B l') (hn : l.length = n) (hm : l'.length = m) (hn2 : n ≤ 1048576) (hm2 : m ≤ 1048576) :
    Calls Try.prog 48 #[.slice A n c, .slice B m d] w fun e w' => e = .returned (.bool (decide (l = l'))) ∧ Chg (fun _ => False) w w' := by
  subst hn hm
  have HA := Lib.hid ha
  have HB := Lib.hid hb
  clear ha hb
  by_cases hlen : l.length = l'.length
  · have hd : decide (l.length = l'.length) = true := by simpa using hlen
    go_enter Try.func48, Try.ntmps48
    go_wp2_with fail
    go_loopw [5] (fun i wr => ∃ k : Nat, k ≤ l.length ∧ i = .int .i64 k ∧ l.take k = l'.take k ∧ Chg (fun _ => False) w wr) (fun i _ => l.length - (intOf i).toNat)
    case atStart => exact ⟨0, by omega, rfl, by simp, Chg.refl _ _⟩
    case round =>
      obtain ⟨k, hk, rfl, ht, hc⟩ := hrel
      by_cases hkn : k < l.length
      · have hkm : k < l'.length := by omega
        obtain ⟨b, o, rfl, _⟩ := HA.out.at_ (k := 0) (by rw [itC_len]; omega)
        obtain ⟨b', o', rfl, _⟩ := HB.out.at_ (k := 0) (by rw [itC_len]; omega)
        have p0 := (HA.out.keep hc (fun _ _ h => h)).cells rfl _ _ (itC_id l k hkn)
        have p1 := (HA.out.keep hc (fun _ _ h => h)).cells rfl _ _ (itC_ver l k hkn)
        have p2 := (HB.out.keep hc (fun _ _ h => h)).cells rfl _ _ (itC_id l' k hkm)
        have p3 := (HB.out.keep hc (fun _ _ h => h)).cells rfl _ _ (itC_ver l' k hkm)
        rw [← Nat.add_assoc] at p1 p3
        obtain ⟨x, hx⟩ : ∃ x, x = l[k] := ⟨_, rfl⟩
        obtain ⟨y, hy⟩ : ∃ y, y = l'[k] := ⟨_, rfl⟩
        rw [← hx] at p0 p1
        rw [← hy] at p2 p3
        have HX := Lib.hid hx
        have HY := Lib.hid hy
        have HT := Lib.hid ht
        clear hx hy ht
        by_cases hxy : x = y
        · subst hxy
          go_wp2_with fail
          go_quiet (fail)
          go_wp2_with fail
          go_roundw
          case rel => exact ⟨k + 1, by omega, by go_num, by rw [List.take_add_one, List.take_add_one, HT.out, List.getElem?_eq_getElem hkn, List.getElem?_eq_getElem hkm, ← HX.out, ← HY.out], hc.drewN _⟩
          case measure => simp [intOf]; omega
        · have hne : l ≠ l' := by
            intro e
            subst e
            exact hxy (HX.out.trans HY.out.symm)
          have HE := Lib.hid hne
          have hcase : (decide (x.1 = y.1) = false) ∨ (decide (x.1 = y.1) = true ∧ decide (x.2 = y.2) = false) := by
            by_cases h1 : x.1 = y.1
            · exact .inr ⟨by simpa using h1, by simpa using fun h2 => hxy (Prod.ext h1 h2)⟩
            · exact .inl (by simpa using h1)
          clear hxy hne
          rcases hcase with hz | ⟨hz1, hz2⟩
          · have hz3 : (x.1 == y.1) = false := by simpa using hz
            have hz4 : ¬ x.1 = y.1 := by simpa using hz
            go_wp2_with fail
            go_quiet (fail)
            go_wp2_with fail
            go_ret
            exact ⟨by rw [decide_eq_false HE.out]; rfl, hc.drewN _⟩
          · have hz3 : (x.2 == y.2) = false := by simpa using hz2
            have hz4 : ¬ x.2 = y.2 := by simpa using hz2
            have hz5 : (x.1 == y.1) = true := by simpa using hz1
            have hz6 : x.1 = y.1 := by simpa using hz1
            go_wp2_with fail
            go_quiet (fail)
            go_wp2_with fail
            go_ret
            exact ⟨by rw [decide_eq_false HE.out]; rfl, hc.drewN _⟩
      · have hkn' : k = l.length := by omega
        subst hkn'
        have hll : l = l' := by
          rw [List.take_of_length_le (Nat.le_refl _), List.take_of_length_le (by omega)] at ht
          exact ht
        have HE := Lib.hid hll
        clear hll ht
        go_wp2_with fail
        go_ret
        exact ⟨by rw [decide_eq_true HE.out]; rfl, hc⟩
  · have hd : decide (l.length = l'.length) = false := by simpa using hlen
    go_enter Try.func48, Try.ntmps48
    go_wp2_with fail
    go_ret
    exact ⟨by rw [decide_eq_false (fun e => hlen (by rw [e]))]; rfl, Chg.refl _ _⟩
end Go.Proofs.Ytngfimjbgopgjaa
