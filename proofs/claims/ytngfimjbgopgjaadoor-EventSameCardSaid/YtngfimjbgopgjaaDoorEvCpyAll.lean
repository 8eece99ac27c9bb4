/- EvCpy, EvMut, in one text (merge.py). -/
import Derived.Test.YtngfimjbgopgjaaDoorEvOwnAll
import Derived.Test.YtngfimjbgopgjaaDoorEvList
/- Contracts of slices.Clone over Defs and ints, of event.Copy and CopyAll at any events (gen_evcpy.py). -/
namespace Go.Proofs.YtngfimjbgopgjaaDoor
open Go.RowKit
set_option linter.unusedVariables false

set_option maxHeartbeats 1000000 in
set_option maxRecDepth 20000 in
theorem cloneI_own (A : Option Addr) (n c : Nat) (xs : List Int) (w : World) (h : Rd w A (xs.map (Value.int .i64))) (hn : xs.length = n) (hn2 : n ≤ 1048576) :
    Calls Tryd.prog 73 #[.slice A n c] w fun e w' => ∃ A' c', e = .returned (.slice A' n c') ∧ w'.ownsRow w.heap.size 3 1 (.slice A' n c') n (xs.map (Value.int .i64)) ∧ Chg (fun _ => False) w w' := by
  subst hn
  obtain ⟨i0, hi, hz0, hz1, hz2⟩ := info_parts intInfo
  have q : ∀ (w : World) (a : Option Addr) (n c n' c' : Nat), (binOp .eql 29 (.slice a n c) (.slice none n' c')).run Tryd.prog w = .ok (.bool a.isNone) w := fun w a n c n' c' => Lib.run_eql_slice_nil w _ _ a n c n' c' Tryd.underlying29
  have hl1 : 0 + xs.length ≤ maxLen := by simp only [maxLen]; omega
  have hl2 : (0 + xs.length) * 8 ≤ 140737488355328 := by omega
  have hmade : (w.alloc (.cells #[] 3)).ownsRow w.heap.size 3 1 (.slice (some ⟨w.heap.size, 0, none⟩) 0 0) 0 [] := World.ownsRow_made w #[] 0 (Nat.le_refl _) (by decide) rfl
  rcases A with _ | ad
  · have hl : xs = [] := by
      rcases h with h | ⟨b, o, e, _⟩
      · rcases xs with _ | ⟨x, l⟩
        · rfl
        · cases h
      · cases e
    subst hl
    go_enter Tryd.func73, Tryd.ntmps73
    go_wp2_with fail
    go_ret
    exact ⟨none, 0, rfl, World.ownsRow_nil _ _ _ _, Chg.refl _ _⟩
  · go_enter Tryd.func73, Tryd.ntmps73
    go_wp2_with (at_builtin; refine wpList_append_rd _ rfl (.tmp 5) (.tmp 6) 29 rfl w.heap.size 3 i0 _ 1 8 Tryd.underlying29 hi hz0 hz1 hz2 rfl (by decide) (some ⟨w.heap.size, 0, none⟩) 0 0 [] rfl hmade (some ad) xs.length c (xs.map (Value.int .i64)) rfl (by simp) (Rd.alloc h _) (ints_one _) hl1 hl2 (by simp) ?_; intro A2 c2 w2 hown2 hg2 hb2)
    go_ret
    simp only [Nat.zero_add, List.nil_append] at hown2
    exact ⟨A2, c2, by simp, hown2, ((Chg.refl _ w).alloc _).trans hg2 (by intro x hx; cases hx; exact .inr (Nat.le_refl _))⟩

set_option maxHeartbeats 1000000 in
set_option maxRecDepth 20000 in
theorem cloneD_own (A : Option Addr) (n c : Nat) (xs : List Df) (w : World) (h : Rd w A (dfC xs)) (hn : xs.length = n) (hn2 : n ≤ 1048576) :
    Calls Tryd.prog 72 #[.slice A n c] w fun e w' => ∃ A' c', e = .returned (.slice A' n c') ∧ w'.ownsRow w.heap.size 49 3 (.slice A' n c') n (dfC xs) ∧ Chg (fun _ => False) w w' := by
  subst hn
  obtain ⟨i0, hi, hz0, hz1, hz2⟩ := info_parts defInfo
  have q : ∀ (w : World) (a : Option Addr) (n c n' c' : Nat), (binOp .eql 26 (.slice a n c) (.slice none n' c')).run Tryd.prog w = .ok (.bool a.isNone) w := fun w a n c n' c' => Lib.run_eql_slice_nil w _ _ a n c n' c' Tryd.underlying26
  have hl1 : 0 + xs.length ≤ maxLen := by simp only [maxLen]; omega
  have hl2 : (0 + xs.length) * 40 ≤ 140737488355328 := by omega
  have hmade : (w.alloc (.cells #[] 49)).ownsRow w.heap.size 49 3 (.slice (some ⟨w.heap.size, 0, none⟩) 0 0) 0 [] := World.ownsRow_made w #[] 0 (Nat.le_refl _) (by decide) rfl
  rcases A with _ | ad
  · have hl : xs = [] := by
      rcases h with h | ⟨b, o, e, _⟩
      · rcases xs with _ | ⟨x, l⟩
        · rfl
        · cases h
      · cases e
    subst hl
    go_enter Tryd.func72, Tryd.ntmps72
    go_wp2_with fail
    go_ret
    exact ⟨none, 0, rfl, World.ownsRow_nil _ _ _ _, Chg.refl _ _⟩
  · go_enter Tryd.func72, Tryd.ntmps72
    go_wp2_with (at_builtin; refine wpList_append_rd _ rfl (.tmp 5) (.tmp 6) 26 rfl w.heap.size 49 i0 _ 3 40 Tryd.underlying26 hi hz0 hz1 hz2 rfl (by decide) (some ⟨w.heap.size, 0, none⟩) 0 0 [] rfl hmade (some ad) xs.length c (dfC xs) rfl (dfC_len _) (Rd.alloc h _) (dfC_one _) hl1 hl2 (by simp) ?_; intro A2 c2 w2 hown2 hg2 hb2)
    go_ret
    simp only [Nat.zero_add, List.nil_append] at hown2
    exact ⟨A2, c2, by simp, hown2, ((Chg.refl _ w).alloc _).trans hg2 (by intro x hx; cases hx; exact .inr (Nat.le_refl _))⟩

/-- A copy: its data, its Defs, each one's needs are rows of the call's own. -/
structure CpyOk (B : Nat) (w : World) (f : EvF) : Prop where
  a : w.ownsRow B 5 1 (.slice f.A f.bs.length f.c) f.bs.length (f.bs.map (Value.int .u8))
  d : w.ownsRow B 49 3 (.slice f.D f.dl.length f.dc) f.dl.length (dfC f.dl)
  n : ∀ d ∈ f.dl, w.ownsRow B 3 1 (.slice d.A d.ns.length d.c) d.ns.length (d.ns.map (Value.int .i64))
/-- Rows of unlike types lie in unlike blocks. -/
theorem own_apart {w : World} {B B' : Nat} {e e' : TypeId} {s s' n n' c c' m m' : Nat} {A A' : Option Addr} {xs ys : List Value} (h : w.ownsRow B e s (.slice A n c) m xs) (h' : w.ownsRow B' e' s' (.slice A' n' c') m' ys) (he : e ≠ e') : ∀ x, blk A = some x → blk A' ≠ some x := fun x hx hx' => by
  rcases h.2 with ⟨h0, _⟩ | ⟨g, cap, cur, hv, _, hg, _⟩
  · injection h0 with h2 _ _
    rw [h2] at hx; cases hx
  · rcases h'.2 with ⟨h0, _⟩ | ⟨g', cap', cur', hv', _, hg', _⟩
    · injection h0 with h2 _ _
      rw [h2] at hx'; cases hx'
    · injection hv with h2 _ _
      injection hv' with h3 _ _
      rw [h2] at hx
      rw [h3] at hx'
      simp only [blk_some, Option.some.injEq] at hx hx'
      rw [hx] at hg
      rw [hx', hg] at hg'
      injection hg' with hg'
      injection hg' with _ h5 _
      exact he h5
theorem CpyOk.keep {B : Nat} {w w' : World} {f : EvF} {S : Nat → Prop} (h : CpyOk B w f) (hc : Chg S w w') (ha : Off S f.A) (hd : Off S f.D) (hn : ∀ d ∈ f.dl, Off S d.A) : CpyOk B w' f :=
  ⟨hc.ownS h.a ha, hc.ownS h.d hd, fun d hm => hc.ownS (h.n d hm) (hn d hm)⟩
theorem CpyOk.still {B : Nat} {w w' : World} {f : EvF} (h : CpyOk B w f) (hc : Chg (fun _ => False) w w') : CpyOk B w' f := h.keep hc (fun _ _ h => h) (fun _ _ h => h) (fun _ _ _ _ h => h)
/-- A row of events turns nothing of it. -/
theorem CpyOk.row {B B' n c m : Nat} {w w' : World} {f : EvF} {A : Option Addr} {xs : List Value} (h : CpyOk B w f) (ho : w.ownsRow B' 28 9 (.slice A n c) m xs) (hc : Chg (In A) w w') : CpyOk B w' f :=
  h.keep hc (own_apart h.a ho (by decide)) (own_apart h.d ho (by decide)) (fun d hd => own_apart (h.n d hd) ho (by decide))
theorem CpyOk.off {B B' n c m : Nat} {w : World} {f : EvF} {A : Option Addr} {xs : List Value} (h : CpyOk B w f) (ho : w.ownsRow B' 28 9 (.slice A n c) m xs) : EvOff (In A) f :=
  ⟨fun _ => own_apart h.a ho (by decide), fun _ => own_apart h.d ho (by decide), fun d hd _ => own_apart (h.n d hd) ho (by decide)⟩
theorem CpyOk.ev {B : Nat} {w w0 : World} {f g : EvF} (h : CpyOk B w f) (hv : f.v = g.v) (hg : EvS w0 g) : EvS w f := by
  obtain ⟨_, _, _, _, _, _, e7, e8, e9⟩ := (EvF.v_iff f g).1 hv
  have hl : f.dl.length = g.dl.length := by simpa using congrArg List.length e9
  refine ⟨⟨by rw [e7]; exact hg.rdy.nm, by rw [e8]; exact hg.rdy.bn, Rd.of_own h.a, ⟨Rd.of_own h.d, fun d hd => Rd.of_own (h.n d hd)⟩, by rw [hl]; exact hg.rdy.dn, fun d hd => ?_⟩, by rw [e8]; exact hg.byt⟩
  have hm : d.v ∈ g.dl.map Df.v := by rw [← e9]; exact List.mem_map_of_mem hd
  obtain ⟨d', hd', he⟩ := List.mem_map.1 hm
  have e1 : d'.ns = d.ns := congrArg Prod.fst he
  rw [← e1]
  exact hg.rdy.ns d' hd'
/-- What Copy gives. -/
def CopyGave (f : EvF) (w : World) (e : Ending) (w' : World) : Prop := ∃ f' : EvF, e = .returned f'.val ∧ CpyOk w.heap.size w' f' ∧ f'.v = f.v ∧ Chg (fun _ => False) w w'
/-- Defs, the needs of the first k of them copied. -/
structure DefsCp (B : Nat) (w' : World) (D : Option Addr) (dc : Nat) (dl0 : List Df) (k : Nat) (dl : List Df) : Prop where
  len : dl.length = dl0.length
  own : w'.ownsRow B 49 3 (.slice D dl0.length dc) dl0.length (dfC dl)
  v : dl.map Df.v = dl0.map Df.v
  new : ∀ j (h : j < dl.length), j < k → w'.ownsRow B 3 1 (.slice dl[j].A dl[j].ns.length dl[j].c) dl[j].ns.length (dl[j].ns.map (Value.int .i64))
  old : ∀ j (h : j < dl.length) (h0 : j < dl0.length), k ≤ j → dl[j] = dl0[j]
theorem dfC_setN (l : List Df) (k : Nat) (d : Df) (h : k < l.length) (h1 : d.tr = l[k].tr) (h2 : d.le = l[k].le) : dfC (l.set k d) = (dfC l).set (k * 3) (.slice d.A d.ns.length d.c) := by
  induction l generalizing k with
  | nil => simp at h
  | cons x l ih =>
    cases k with
    | zero =>
      simp only [List.getElem_cons_zero] at h1 h2
      simp [dfC, h1, h2]
    | succ k =>
      rw [List.set_cons_succ, dfC, ih k (by simpa using h) (by simpa using h1) (by simpa using h2), show (k + 1) * 3 = k * 3 + 1 + 1 + 1 by omega]
      simp [dfC]
theorem DefsCp.next {B : Nat} {w w' : World} {g dc : Nat} {dl0 : List Df} {k : Nat} {dl : List Df} (h : DefsCp B w (some ⟨g, 0, none⟩) dc dl0 k dl) (hk : k < dl0.length) {A : Option Addr} {c : Nat} (hB : B ≤ w.heap.size) (hc : Chg (fun _ => False) w w') (hA : w'.ownsRow w.heap.size 3 1 (.slice A dl0[k].ns.length c) dl0[k].ns.length (dl0[k].ns.map (Value.int .i64))) :
    DefsCp B (w'.setCell ⟨g, k * 3, none⟩ (.slice A dl0[k].ns.length c)) (some ⟨g, 0, none⟩) dc dl0 (k + 1) (dl.set k ⟨A, c, dl0[k].ns, dl0[k].tr, dl0[k].le⟩) := by
  have hkl : k < dl.length := by rw [h.len]; exact hk
  have hold := h.old k hkl hk (Nat.le_refl _)
  have hown := hc.ownS h.own (fun _ _ h => h)
  have hS : Chg (· = g) w' (w'.setCell ⟨g, k * 3, none⟩ (.slice A dl0[k].ns.length c)) := (Chg.refl (· = g) w').setCell (p := ⟨g, k * 3, none⟩) (.inl rfl) _
  have hgA : ∀ {x : Option Addr} {n c m : Nat} {ys : List Value} {B' : Nat}, w'.ownsRow B' 3 1 (.slice x n c) m ys → Off (· = g) x := fun ho x hx e => own_apart ho hown (by decide) x hx (by rw [e]; rfl)
  refine ⟨by rw [List.length_set]; exact h.len, ?_, ?_, fun j hj hjk => ?_, fun j hj hj0 hkj => ?_⟩
  · rw [dfC_setN dl k _ hkl (by rw [hold]) (by rw [hold])]
    exact (hown.stored _ _).1
  · apply List.ext_getElem?
    intro i
    rw [← h.v, List.map_set]
    by_cases e : k = i
    · subst e
      rw [List.getElem?_set_self (by simpa using hkl), List.getElem?_map, List.getElem?_eq_getElem hkl, hold]
      rfl
    · rw [List.getElem?_set_ne e]
  · by_cases e : k = j
    · subst e
      simp only [List.getElem_set_self]
      have h1 := hS.ownS hA (hgA hA)
      refine ⟨h1.1, ?_⟩
      rcases h1.2 with h2 | ⟨g1, cap, cur, a1, a2, a3⟩
      · exact .inl h2
      · exact .inr ⟨g1, cap, cur, a1, Nat.le_trans hB a2, a3⟩
    · rw [List.getElem_set_ne e]
      have hj' : j < dl.length := by simpa using hj
      have h1 := hc.ownS (h.new j hj' (by omega)) (fun _ _ h => h)
      exact hS.ownS h1 (hgA h1)
  · rw [List.getElem_set_ne (by omega)]
    exact h.old j (by simpa using hj) hj0 (by omega)

set_option maxHeartbeats 8000000 in
set_option maxRecDepth 20000 in
theorem copy_any (f : EvF) (w : World) (h : EvS w f) : Calls Tryd.prog 24 #[.agg #[.int .i64 f.id, .int .i64 f.ver, .int .i64 f.tm, .int .i64 f.ty, .int .i64 f.node, .int .i64 f.m, .string f.nm, .slice f.A f.bs.length f.c, .slice f.D f.dl.length f.dc]] w (CopyGave f w) := by
  have bP := two_P w 28 28 #[.int .i64 f.id, .int .i64 f.ver, .int .i64 f.tm, .int .i64 f.ty, .int .i64 f.node, .int .i64 f.m, .string f.nm, .slice f.A f.bs.length f.c, .slice f.D f.dl.length f.dc] #[.int .i64 0, .int .i64 0, .int .i64 0, .int .i64 0, .int .i64 0, .int .i64 0, .string { data := #[] }, .slice none 0 0, .slice none 0 0]
  have bE := two_E w 28 28 #[.int .i64 f.id, .int .i64 f.ver, .int .i64 f.tm, .int .i64 f.ty, .int .i64 f.node, .int .i64 f.m, .string f.nm, .slice f.A f.bs.length f.c, .slice f.D f.dl.length f.dc] #[.int .i64 0, .int .i64 0, .int .i64 0, .int .i64 0, .int .i64 0, .int .i64 0, .string { data := #[] }, .slice none 0 0, .slice none 0 0]
  have HE := Lib.hid h
  have hbn := h.rdy.bn
  have hdn := h.rdy.dn
  clear h
  go_enter Tryd.func24, Tryd.ntmps24
  go_upto_region 1 with fail
  obtain ⟨w1, hw1⟩ : ∃ w1, w1 = (w.alloc (.cells #[.int .i64 f.id, .int .i64 f.ver, .int .i64 f.tm, .int .i64 f.ty, .int .i64 f.node, .int .i64 f.m, .string f.nm, .slice f.A f.bs.length f.c, .slice f.D f.dl.length f.dc] 28)).alloc (.cells #[.int .i64 0, .int .i64 0, .int .i64 0, .int .i64 0, .int .i64 0, .int .i64 0, .string { data := #[] }, .slice none 0 0, .slice none 0 0] 28) := ⟨_, rfl⟩
  have hc1 : Chg (fun _ => False) w w1 := by rw [hw1]; exact ((Chg.refl _ _).alloc _).alloc _
  have hsz1 : w1.heap.size = w.heap.size + 2 := by rw [hw1]; simp
  obtain ⟨g, hg⟩ : ∃ g, g = w.heap.size := ⟨_, rfl⟩
  rw [← hw1] at bP bE ⊢
  rw [← hg] at bP bE hsz1 ⊢
  obtain ⟨bn, hbnl⟩ : ∃ bn, bn = f.bs.length := ⟨_, rfl⟩
  obtain ⟨dn, hdnl⟩ : ∃ dn, dn = f.dl.length := ⟨_, rfl⟩
  rw [← hbnl] at bP hbn ⊢
  rw [← hdnl] at bP hdn ⊢
  have HBN := Lib.hid hbnl
  have HDN := Lib.hid hdnl
  have HG := Lib.hid hg
  have HS := Lib.hid hsz1
  clear hw1 hg hsz1 hbnl hdnl
  have hcB := cloneB_own f.A bn f.c f.bs w1.drew (HE.out.rdy.rd.keep hc1.drew (fun _ _ h => h)) HBN.out.symm (by omega)
  have hcD := fun (w' : World) (hw : Chg (fun _ => False) w1 w') => cloneD_own f.D dn f.dc f.dl w' (HE.out.rdy.ds.rd.keep (hc1.trans hw (fun x hx => hx.elim)) (fun _ _ h => h)) HDN.out.symm (by omega)
  have HCB := Lib.hid hcB
  have HCD := Lib.hid hcD
  have HBP := Lib.hid bP
  have q7 : w1.cell? ⟨g, 7, none⟩ = some (.slice f.A bn f.c) := bP.cell 7 rfl
  have q8 : w1.cell? ⟨g, 8, none⟩ = some (.slice f.D dn f.dc) := bP.cell 8 rfl
  have k0 : Chg (fun _ => False) w1 w1.drew := (Chg.refl _ _).drew
  clear hcB hcD
  go_cut [3] from 4 to 11 (fun _ w' => ∃ (A2 : Option Addr) (c2 : Nat) (D3 : Option Addr) (dc3 : Nat), BoxAt w' g 28 #[.int .i64 f.id, .int .i64 f.ver, .int .i64 f.tm, .int .i64 f.ty, .int .i64 f.node, .int .i64 f.m, .string f.nm, .slice A2 bn c2, .slice D3 dn dc3] ∧ w'.ownsRow w1.heap.size 5 1 (.slice A2 bn c2) bn (f.bs.map (Value.int .u8)) ∧ w'.ownsRow w1.heap.size 49 3 (.slice D3 dn dc3) dn (dfC f.dl) ∧ Chg (· = g) w1 w')
  case first =>
    go_region_law (first
      | (go_simp; go_at_call 72; (with_reducible refine (HCD.out w2 hc12).mono ?_); rintro e w3 ⟨D3, dc3, rfl, ho3, hc3⟩; have hc13 : Chg (fun _ => False) w1 w3 := hc12.trans hc3 (fun x hx => hx.elim); have bP3 := HBP.out.keep hc13 (fun h => h); have s7 : w3.cell? ⟨g, 7, none⟩ = some (.slice f.A bn f.c) := bP3.cell 7 rfl; have s8 : w3.cell? ⟨g, 8, none⟩ = some (.slice f.D dn f.dc) := bP3.cell 8 rfl; have z7 := bP3.fz 7; have z8 := bP3.fz 8)
      | (go_simp; go_at_call 71; (with_reducible refine HCB.out.mono ?_); rintro e w2 ⟨A2, c2, rfl, ho2, hc2⟩; have hc12 : Chg (fun _ => False) w1 w2 := k0.trans hc2 (fun x hx => hx.elim); have bP2 := HBP.out.keep hc12 (fun h => h); have t7 : w2.cell? ⟨g, 7, none⟩ = some (.slice f.A bn f.c) := bP2.cell 7 rfl; have t8 : w2.cell? ⟨g, 8, none⟩ = some (.slice f.D dn f.dc) := bP2.cell 8 rfl))
    all_goals
      go_wp2_with fail
      go_meet
      have hcS : Chg (· = g) w3 ((w3.setCell ⟨g, 7, none⟩ (.slice A2 bn c2)).setCell ⟨g, 8, none⟩ (.slice D3 dn dc3)) := ((Chg.refl (· = g) w3).setCell (p := ⟨g, 7, none⟩) (.inl rfl) _).setCell (p := ⟨g, 8, none⟩) (.inl rfl) _
      have ho2' := own_mono (hc3.ownS ho2 (fun _ _ h => h)) (Nat.le_refl _)
      have hgw : g < w1.heap.size := by have := HS.out; omega
      have b8 := (bP3.set 7 (.slice A2 bn c2)).set 8 (.slice D3 dn dc3)
      refine ⟨A2, c2, D3, dc3, by simpa using b8, hcS.ownS ho2' (fun x hx e => ?_), own_mono (hcS.ownS ho3 (fun x hx e => ?_)) hc12.size, (hc13.mono (fun x h => h.elim)).trans hcS (fun x hx => .inl hx)⟩
      · have e' : x = g := e
        have h1 := (own_lt ho2' hx).1
        have h2 : w1.drew.heap.size = w1.heap.size := rfl
        omega
      · have e' : x = g := e
        have h1 := (own_lt ho3 hx).1
        have h2 := hc12.size
        omega
  obtain ⟨A2, c2, D3, dc3, b3, ho2, ho3, hcX⟩ := hcut
  obtain ⟨w4, hw4⟩ : ∃ w4, w4 = wc := ⟨_, rfl⟩
  rw [← hw4] at b3 ho2 ho3 hcX
  have bE4 := bE.keep hcX (show ¬ g + 1 = g by omega)
  go_upto_region 2 with fail
  rw [← hw4]
  have hgw1 : g + 2 ≤ w1.heap.size := by have := HS.out; omega
  have hcw4 : Chg (fun _ => False) w w4 := hc1.trans hcX (fun x hx => .inr (by rw [hx, HG.out]; exact Nat.le_refl _))
  have hD3g : ∀ x, In D3 x → g + 2 ≤ x := fun x hx => Nat.le_trans hgw1 (own_lt ho3 hx).1
  have HB3 := Lib.hid b3
  have HBE := Lib.hid bE4
  have hst0 : DefsCp w1.heap.size w4 D3 dc3 f.dl 0 f.dl := ⟨rfl, by rw [← HDN.out]; exact ho3, rfl, fun j _ h => absurd h (by omega), fun j _ _ _ => rfl⟩
  have hp8 : w4.cell? ⟨g, 8, none⟩ = some (.slice D3 dn dc3) := b3.cell 8 rfl
  have HAP := Lib.hid (fun (x : Nat) (hx : blk A2 = some x) (e : blk D3 = some x) => own_apart ho2 ho3 (by decide) x hx e)
  clear hw4 hcX bP bE bE4 b3 ho3
  go_wp2_with fail
  go_loopw [15] (fun i w' => ∃ (k : Nat) (dl : List Df), k ≤ dn ∧ i = .int .i64 k ∧ DefsCp w1.heap.size w' D3 dc3 f.dl k dl ∧ Chg (In D3) w4 w') (fun i _ => dn - (intOf i).toNat)
  case atStart => exact ⟨0, f.dl, Nat.zero_le _, rfl, hst0, Chg.refl _ _⟩
  case round =>
    clear hst0 hp8
    obtain ⟨k, dl, hk, rfl, hD, hcD⟩ := hrel
    have HD := Lib.hid hD
    have bR := HB3.out.keep hcD (fun hx => by have := hD3g g hx; omega)
    have hcw : Chg (fun _ => False) w wr := hcw4.trans hcD (fun x hx => .inr (by have := hD3g x hx; rw [← HG.out]; omega))
    clear hD
    by_cases hkn : k < dn
    · have hkl : k < f.dl.length := by rw [← HDN.out]; exact hkn
      have hkd : k < dl.length := by rw [HD.out.len]; exact hkl
      obtain ⟨g3, rfl⟩ : ∃ g3, D3 = some ⟨g3, 0, none⟩ := by
        rcases HD.out.own.2 with ⟨h0, h1⟩ | ⟨g3, cap, cur, hv, _⟩
        · omega
        · injection hv with h2 _ _
          exact ⟨g3, h2⟩
      have hold := HD.out.old k hkd hkl (Nat.le_refl _)
      have c0 := (Rd.of_own HD.out.own).cells rfl _ _ (dfC_get dl k hkd).1
      rw [hold, Nat.zero_add] at c0
      have hx := HE.out.rdy.ds.ns f.dl[k] (List.getElem_mem _)
      have hxl := HE.out.rdy.ns f.dl[k] (List.getElem_mem _)
      obtain ⟨x, hxe⟩ : ∃ x, x = f.dl[k] := ⟨_, rfl⟩
      rw [← hxe] at c0 hx hxl
      have hcl := cloneI_own x.A x.ns.length x.c x.ns wr.drew (hx.keep hcw.drew (fun _ _ h => h)) rfl hxl
      have HCL := Lib.hid hcl
      have HXE := Lib.hid hxe
      have HBR := Lib.hid bR
      have HWN := Lib.hid HD.out.own
      have p8 : wr.cell? ⟨g, 8, none⟩ = some (.slice (some ⟨g3, 0, none⟩) dn dc3) := bR.cell 8 rfl
      have j0 : (0 : Int) ≤ (k : Int) := by omega
      have j1 : (k : Int) < (dn : Int) := by omega
      have k0 : Chg (fun _ => False) wr wr.drew := (Chg.refl _ _).drew
      clear hcl hx bR hold hxe
      go_upto_region 5 with fail
      go_region_law (first
        | (go_simp; go_at_call 73; (with_reducible refine HCL.out.mono ?_); rintro e w6 ⟨A6, c6, rfl, ho6, hc6⟩; have hc16 : Chg (fun _ => False) wr w6 := k0.trans hc6 (fun x hx => hx.elim); have s8 : w6.cell? ⟨g, 8, none⟩ = some (.slice (some ⟨g3, 0, none⟩) dn dc3) := (HBR.out.keep hc16 (fun h => h)).cell 8 rfl; have z0 : w6.frozen? ⟨g3, k * 3, none⟩ = false := (hc16.ownS HWN.out (fun _ _ h => h)).frozenAt _; have y0 : w6.cell? ⟨g3, k * 3, none⟩ = some (.slice x.A x.ns.length x.c) := hc16.cell_some c0 (fun h => h)))
      all_goals
        have hB : w1.heap.size ≤ wr.heap.size := Nat.le_of_lt (Nat.lt_of_le_of_lt (own_lt HD.out.own rfl).1 (own_lt HD.out.own rfl).2)
        have ho6' : w6.ownsRow wr.heap.size 3 1 (.slice A6 f.dl[k].ns.length c6) f.dl[k].ns.length (f.dl[k].ns.map (Value.int .i64)) := by rw [← HXE.out]; exact ho6
        have hnx := HD.out.next hkl hB hc16 ho6'
        rw [← HXE.out] at hnx
        have HNX := Lib.hid hnx
        have hcN : Chg (In (some ⟨g3, 0, none⟩)) w4 (w6.setCell ⟨g3, k * 3, none⟩ (.slice A6 x.ns.length c6)) := (hcD.trans hc16 (fun x hx => hx.elim)).setCell (p := ⟨g3, k * 3, none⟩) (.inl rfl) _
        clear hnx ho6 ho6'
        go_wp2_with fail
        go_roundw
        case rel => exact ⟨k + 1, _, hkn, by go_num, HNX.out, hcN⟩
        case measure => simp [intOf]; omega
    · have hke : k = f.dl.length := by rw [← HDN.out]; omega
      have j1 : ¬ (k : Int) < (dn : Int) := by omega
      have bER := HBE.out.keep hcD (fun hx => by have := hD3g (g + 1) hx; omega)
      have hnew : ∀ d ∈ dl, wr.ownsRow w1.heap.size 3 1 (.slice d.A d.ns.length d.c) d.ns.length (d.ns.map (Value.int .i64)) := fun d hd => by
        obtain ⟨j, hj, rfl⟩ := List.mem_iff_getElem.1 hd
        exact HD.out.new j hj (by have := HD.out.len; omega)
      have HNEW := Lib.hid hnew
      have ho2r : wr.ownsRow w1.heap.size 5 1 (.slice A2 bn c2) bn (f.bs.map (Value.int .u8)) := by
        refine hcD.ownS ho2 (fun x hx hx' => ?_)
        have h1 := ho2
        exact absurd hx' (fun e => HAP.out x hx e)
      have HO2 := Lib.hid ho2r
      clear hnew ho2r hke
      have s0 := bR.cell 0 rfl
      have s1 := bR.cell 1 rfl
      have s2 := bR.cell 2 rfl
      have s3 := bR.cell 3 rfl
      have s4 := bR.cell 4 rfl
      have s5 := bR.cell 5 rfl
      have s6 := bR.cell 6 rfl
      have s7 := bR.cell 7 rfl
      have s8 := bR.cell 8 rfl
      have t0 := bER.cell 0 rfl
      have t1 := bER.cell 1 rfl
      have t2 := bER.cell 2 rfl
      have t3 := bER.cell 3 rfl
      have t4 := bER.cell 4 rfl
      have t5 := bER.cell 5 rfl
      have t6 := bER.cell 6 rfl
      have t7 := bER.cell 7 rfl
      have t8 := bER.cell 8 rfl
      have z0 := bER.fz 0
      have z1 := bER.fz 1
      have z2 := bER.fz 2
      have z3 := bER.fz 3
      have z4 := bER.fz 4
      have z5 := bER.fz 5
      have z6 := bER.fz 6
      have z7 := bER.fz 7
      have z8 := bER.fz 8
      go_wp2_with fail
      (try simp only [Exit.inBlock, Exit.then])
      refine bodyPost_ret (results_cell_row rfl _ _ (g + 1) _ _ _ _ rfl (BoxAt.set9 bER _ _ _ _ _ _ _ _ _) Tryd.underlying28 rfl evSize) rfl ?_
      have hcS := chg_set9 wr (g + 1) (.int .i64 f.id) (.int .i64 f.ver) (.int .i64 f.tm) (.int .i64 f.ty) (.int .i64 f.node) (.int .i64 f.m) (.string f.nm) (.slice A2 bn c2) (.slice D3 dn dc3)
      have hw1 : w.heap.size ≤ w1.heap.size := by rw [← HG.out]; omega
      have hoff : ∀ {e : TypeId} {s n c m : Nat} {A : Option Addr} {xs : List Value}, wr.ownsRow w1.heap.size e s (.slice A n c) m xs → Off (· = g + 1) A := fun ho x hx e => by
        have e' : x = g + 1 := e
        have := (own_lt ho hx).1
        omega
      have hlen : dl.length = dn := by rw [HD.out.len, HDN.out]
      have hown := HD.out.own
      rw [← HDN.out] at hown
      refine ⟨⟨f.id, f.ver, f.tm, f.ty, f.node, f.m, f.nm, A2, c2, f.bs, D3, dc3, dl⟩, ?_, ⟨?_, ?_, fun d hd => ?_⟩, ?_, hcw.trans hcS (fun x hx => .inr (by rw [hx, HG.out]; exact Nat.le_succ _))⟩
      · simp only [EvF.val, EvF.row, hlen, ← HBN.out]
      · simp only [← HBN.out]
        exact own_mono (hcS.ownS HO2.out (hoff HO2.out)) hw1
      · simp only [hlen]
        exact own_mono (hcS.ownS hown (hoff hown)) hw1
      · exact own_mono (hcS.ownS (HNEW.out d hd) (hoff (HNEW.out d hd))) hw1
      · simp only [EvF.v, HD.out.v]

theorem CpyOk.mono {B B' : Nat} {w : World} {f : EvF} (h : CpyOk B w f) (hB : B' ≤ B) : CpyOk B' w f := ⟨own_mono h.a hB, own_mono h.d hB, fun d hd => own_mono (h.n d hd) hB⟩
/-- A list of copies, a row of the call's own. -/
structure CpyL (B : Nat) (w : World) (A : Option Addr) (c n : Nat) (l : List EvF) : Prop where
  len : l.length = n
  own : w.ownsRow B 28 9 (.slice A n c) n (eoC l)
  ok : ∀ f ∈ l, CpyOk B w f
theorem CpyL.still {B c n : Nat} {w w' : World} {A : Option Addr} {l : List EvF} (h : CpyL B w A c n l) (hc : Chg (fun _ => False) w w') : CpyL B w' A c n l :=
  ⟨h.len, hc.ownS h.own (fun _ _ h => h), fun f hf => (h.ok f hf).still hc⟩
/-- What CopyAll gives. -/
def CopyAllGave (l : List EvF) (w : World) (n : Nat) (e : Ending) (w' : World) : Prop := ∃ (A : Option Addr) (c : Nat) (lc : List EvF), e = .returned (.slice A n c) ∧ CpyL w.heap.size w' A c n lc ∧ lc.map EvF.v = l.map EvF.v ∧ (∀ f ∈ lc, EvS w' f) ∧ Chg (fun _ => False) w w'

set_option maxHeartbeats 8000000 in
set_option maxRecDepth 20000 in
theorem copyAll_any (A : Option Addr) (n c : Nat) (l : List EvF) (w : World) (h : RdEv w A l) (hn : l.length = n) (hl : n ≤ 1048576) :
    Calls Tryd.prog 20 #[.slice A n c] w (CopyAllGave l w n) := by
  obtain ⟨i0, hi, hz0, hz1, hz2⟩ := info_parts evInfo
  have HR := Lib.hid h
  have HN := Lib.hid hn.symm
  clear h hn
  go_enter Tryd.func20, Tryd.ntmps20
  go_wp2_with fail
  go_loopw [3, 8] (fun a i w' => ∃ (k : Nat) (C : Option Addr) (d : Nat) (lc : List EvF), k ≤ n ∧ a = .slice C k d ∧ i = .int .i64 k ∧ CpyL w.heap.size w' C d k lc ∧ lc.map EvF.v = (l.map EvF.v).take k ∧ Chg (fun _ => False) w w') (fun _ i _ => n - (intOf i).toNat)
  case atStart => exact ⟨0, none, 0, [], Nat.zero_le _, rfl, rfl, ⟨rfl, World.ownsRow_nil _ _ _ _, fun f hf => by cases hf⟩, by simp, Chg.refl _ _⟩
  case round =>
    obtain ⟨k, C, d, lc, hk, rfl, rfl, hL, hv, hc⟩ := hrel
    have HL := Lib.hid hL
    have HV := Lib.hid hv
    clear hL hv
    by_cases hkn : k < n
    · have hkl : k < l.length := by rw [← HN.out]; exact hkn
      have hre := HR.out.still hc
      obtain ⟨b, o, hA, _⟩ := hre.rd.at_ (k := 0) (by rw [eoC_len]; omega)
      obtain ⟨p0, p1, p2, p3, p4, p5, p6, p7, p8⟩ := eoC_get l k hkl
      have q0 := hre.rd.cells hA _ _ p0
      have q1 := hre.rd.cells hA _ _ p1
      have q2 := hre.rd.cells hA _ _ p2
      have q3 := hre.rd.cells hA _ _ p3
      have q4 := hre.rd.cells hA _ _ p4
      have q5 := hre.rd.cells hA _ _ p5
      have q6 := hre.rd.cells hA _ _ p6
      have q7 := hre.rd.cells hA _ _ p7
      have q8 := hre.rd.cells hA _ _ p8
      rw [← Nat.add_assoc] at q1 q2 q3 q4 q5 q6 q7 q8
      clear p0 p1 p2 p3 p4 p5 p6 p7 p8
      have hx := hre.ev l[k] (List.getElem_mem _)
      have hvs : ∀ u : EvF, u.v = l[k].v → (lc ++ [u]).map EvF.v = (l.map EvF.v).take (k + 1) := fun u hu => by
        rw [List.map_append, HV.out, List.take_add_one, List.getElem?_map, List.getElem?_eq_getElem hkl]
        simp [hu]
      have HVS := Lib.hid hvs
      obtain ⟨f, hf⟩ : ∃ f, f = l[k] := ⟨_, rfl⟩
      rw [← hf] at q0 q1 q2 q3 q4 q5 q6 q7 q8 hx HVS
      clear hf hre hvs
      subst hA
      have j0 : (0 : Int) ≤ (k : Int) := by omega
      have j1 : (k : Int) < (n : Int) := by omega
      obtain ⟨w2, hw2⟩ : ∃ w2, w2 = wr.alloc (.cells #[.int .i64 f.id, .int .i64 f.ver, .int .i64 f.tm, .int .i64 f.ty, .int .i64 f.node, .int .i64 f.m, .string f.nm, .slice f.A f.bs.length f.c, .slice f.D f.dl.length f.dc] 28) := ⟨_, rfl⟩
      have hc2 : Chg (fun _ => False) wr w2 := by rw [hw2]; exact (Chg.refl _ _).alloc _
      have bx : BoxAt w2 wr.heap.size 28 #[.int .i64 f.id, .int .i64 f.ver, .int .i64 f.tm, .int .i64 f.ty, .int .i64 f.node, .int .i64 f.m, .string f.nm, .slice f.A f.bs.length f.c, .slice f.D f.dl.length f.dc] := by rw [hw2]; exact BoxAt.new wr _ _
      have HCL := Lib.hid (copy_any f w2 (hx.still hc2))
      have HL2 := Lib.hid (HL.out.still hc2)
      have hcr := hc.trans hc2 (fun x hx => hx.elim)
      go_upto_region 5 with fail
      rw [← hw2]
      clear hw2 q0 q1 q2 q3 q4 q5 q6 q7 q8 hx
      obtain ⟨gx, hgx⟩ : ∃ gx, gx = wr.heap.size := ⟨_, rfl⟩
      rw [← hgx] at bx ⊢
      clear hgx
      have r0 := bx.cell 0 rfl
      have r1 := bx.cell 1 rfl
      have r2 := bx.cell 2 rfl
      have r3 := bx.cell 3 rfl
      have r4 := bx.cell 4 rfl
      have r5 := bx.cell 5 rfl
      have r6 := bx.cell 6 rfl
      have r7 := bx.cell 7 rfl
      have r8 := bx.cell 8 rfl
      have hl1 : k + 1 ≤ maxLen := by simp only [maxLen]; omega
      have hl2 : (k + 1) * 112 ≤ 140737488355328 := by omega
      go_wp2_with (first
        | (at_builtin; have hL3 := HL2.out.still hc3; refine wpList_append_rd _ rfl (.tmp 12) (.tmp 15) 44 rfl w.heap.size 28 i0 _ 9 112 Tryd.underlying44 hi hz0 hz1 hz2 rfl (by decide) C k d (eoC lc) rfl (World.ownsRow.alloc hL3.own _) (some ⟨w3.heap.size, 0, none⟩) 1 1 (eoC [⟨id, ver, tm, ty, node, m, nm, A7, c7, bs, D7, dc, dl⟩]) rfl rfl (Rd.newRow w3 _ _ _ rfl) (eoC_one _) hl1 hl2 ((hcr.trans hc3 (fun x hx => hx.elim)).alloc _).size ?_; intro A8 c8 w8 hown8 hg8 hb8)
        | (go_at_call 24; (with_reducible refine HCL.out.mono ?_); rintro e w3 ⟨⟨id, ver, tm, ty, node, m, nm, A7, c7, bs, D7, dc, dl⟩, he, hok, hve, hc3⟩; simp only [EvF.val, EvF.row] at he; subst he; have HOK := Lib.hid hok; have HVE := Lib.hid hve; clear hok hve))
      have hcr3 := hcr.trans hc3 (fun x hx => hx.elim)
      have hca := (Chg.refl (fun _ => False) w3).alloc (.cells #[.int .i64 id, .int .i64 ver, .int .i64 tm, .int .i64 ty, .int .i64 node, .int .i64 m, .string nm, .slice A7 bs.length c7, .slice D7 dl.length dc] 28)
      have hL4 := (HL2.out.still hc3).still hca
      have hok4 := (HOK.out.still hca).mono (B' := w.heap.size) hcr.size
      have hcz := hcr3.trans hca (fun x hx => hx.elim)
      have hL8 : CpyL w.heap.size w8 A8 c8 (k + 1) (lc ++ [⟨id, ver, tm, ty, node, m, nm, A7, c7, bs, D7, dc, dl⟩]) := by
        refine ⟨by rw [List.length_append, hL4.len]; rfl, by rw [eoC_app]; exact hown8, fun u hu => ?_⟩
        rcases List.mem_append.1 hu with hu | hu
        · exact (hL4.ok u hu).row hL4.own hg8
        · rw [List.mem_singleton.1 hu]; exact hok4.row hL4.own hg8
      have hv8 := HVS.out ⟨id, ver, tm, ty, node, m, nm, A7, c7, bs, D7, dc, dl⟩ HVE.out
      obtain ⟨l8, hl8⟩ : ∃ l8, l8 = lc ++ [(⟨id, ver, tm, ty, node, m, nm, A7, c7, bs, D7, dc, dl⟩ : EvF)] := ⟨_, rfl⟩
      rw [← hl8] at hL8 hv8
      have hc8 : Chg (fun _ => False) w w8 := hcz.trans hg8 (fun x hx => .inr (own_lt hL4.own hx).1)
      clear hl8 hown8 hL4 hok4 hcz hca
      go_roundw
      case rel => exact ⟨k + 1, A8, c8, l8, hkn, rfl, by go_num, hL8, hv8, hc8⟩
      case measure => simp [intOf]; omega
    · have hke : k = n := by omega
      have j1 : ¬ (k : Int) < (n : Int) := by omega
      go_wp2_with fail
      go_ret
      have hvv := HV.out
      rw [List.take_of_length_le (by rw [List.length_map, ← HN.out]; omega)] at hvv
      refine ⟨C, d, lc, rfl, by rw [← hke]; exact HL.out, hvv, fun f hf => ?_, hc⟩
      have hm : f.v ∈ l.map EvF.v := by rw [← hvv]; exact List.mem_map_of_mem hf
      obtain ⟨f', hf', he⟩ := List.mem_map.1 hm
      exact (HL.out.ok f hf).ev he.symm (HR.out.ev f' hf')
end Go.Proofs.YtngfimjbgopgjaaDoor

/- Copies that are written to: their data, their Defs. -/
namespace Go.Proofs.YtngfimjbgopgjaaDoor
open Go.RowKit
set_option linter.unusedVariables false

theorem set_same (w : World) (g k : Nat) (u : Value) {cur : Array Value} {T : TypeId} (h : w.heap[g]? = some (.cells cur T (0, 0))) : (w.setCell ⟨g, k, none⟩ u).heap[g]? = some (.cells (cur.setIfInBounds k u) T (0, 0)) := by
  simp [World.setCell, Array.getElem?_modify, h]
theorem set_other (w : World) (g k : Nat) (u : Value) (g' : Nat) (hg : g ≠ g') : (w.setCell ⟨g, k, none⟩ u).heap[g']? = w.heap[g']? := by
  simp [World.setCell, Array.getElem?_modify, hg]
/-- Bytes that may be written. -/
def MutB (B : Nat) (w : World) (A : Option Addr) (n : Nat) : Prop := n = 0 ∨ ∃ g cur, A = some ⟨g, 0, none⟩ ∧ B ≤ g ∧ w.heap[g]? = some (.cells cur 5 (0, 0)) ∧ ∀ k, k < n → ∃ z : Int, cur[k]? = some (.int .u8 z)
/-- Defs that may be written. -/
def MutD (B : Nat) (w : World) (D : Option Addr) (n : Nat) : Prop := n = 0 ∨ ∃ g cur, D = some ⟨g, 0, none⟩ ∧ B ≤ g ∧ w.heap[g]? = some (.cells cur 49 (0, 0)) ∧ n * 3 ≤ cur.size
/-- The row of events over them. -/
def MutE (w : World) (C : Option Addr) (l : List EvF) : Prop := l = [] ∨ ∃ g cur, C = some ⟨g, 0, none⟩ ∧ w.heap[g]? = some (.cells cur 28 (0, 0)) ∧ ∀ (j : Nat) (u : Value), (eoC l)[j]? = some u → cur[j]? = some u
structure Muts (B : Nat) (w : World) (C : Option Addr) (l : List EvF) : Prop where
  e : MutE w C l
  b : ∀ f ∈ l, MutB B w f.A f.bs.length
  d : ∀ f ∈ l, MutD B w f.D f.dl.length
theorem MutE.set {w : World} {C : Option Addr} {l : List EvF} (h : MutE w C l) {g : Nat} {cur : Array Value} {T : TypeId} (hg : w.heap[g]? = some (.cells cur T (0, 0))) (hT : T ≠ 28) (k : Nat) (u : Value) : MutE (w.setCell ⟨g, k, none⟩ u) C l := by
  rcases h with h | ⟨g', cur', hC, hg', hx⟩
  · exact .inl h
  · refine .inr ⟨g', cur', hC, ?_, hx⟩
    rw [set_other _ _ _ _ _ (fun e => ?_)]
    · exact hg'
    · rw [e, hg'] at hg
      injection hg with hg
      injection hg with _ h5 _
      exact hT h5.symm
theorem MutD.set {B : Nat} {w : World} {D : Option Addr} {n : Nat} (h : MutD B w D n) (g k : Nat) (u : Value) : MutD B (w.setCell ⟨g, k, none⟩ u) D n := by
  rcases h with h | ⟨g', cur', hD, hB, hg', hx⟩
  · exact .inl h
  · by_cases e : g = g'
    · subst e
      exact .inr ⟨g, _, hD, hB, set_same w g k u hg', by simpa using hx⟩
    · exact .inr ⟨g', cur', hD, hB, by rw [set_other _ _ _ _ _ e]; exact hg', hx⟩
theorem MutB.set {B : Nat} {w : World} {A : Option Addr} {n : Nat} (h : MutB B w A n) {g : Nat} {cur : Array Value} {T : TypeId} (hg : w.heap[g]? = some (.cells cur T (0, 0))) (k : Nat) (u : Value) (hT : T = 5 → ∃ z : Int, u = .int .u8 z) : MutB B (w.setCell ⟨g, k, none⟩ u) A n := by
  rcases h with h | ⟨g', cur', hA, hB, hg', hx⟩
  · exact .inl h
  · by_cases e : g = g'
    · subst e
      rw [hg'] at hg
      injection hg with hg
      injection hg with h4 h5 _
      obtain ⟨z, rfl⟩ := hT h5.symm
      refine .inr ⟨g, _, hA, hB, set_same w g k _ hg', fun j hj => ?_⟩
      obtain ⟨z', hz⟩ := hx j hj
      by_cases e : k = j
      · subst e
        refine ⟨z, ?_⟩
        have hlt := (Array.getElem?_eq_some_iff.1 hz).1
        simp [hlt]
      · exact ⟨z', by rw [Array.getElem?_setIfInBounds_ne e]; exact hz⟩
    · exact .inr ⟨g', cur', hA, hB, by rw [set_other _ _ _ _ _ e]; exact hg', hx⟩
theorem Muts.setB {B : Nat} {w : World} {C : Option Addr} {l : List EvF} (h : Muts B w C l) {g : Nat} {cur : Array Value} (hg : w.heap[g]? = some (.cells cur 5 (0, 0))) (k : Nat) (z : Int) : Muts B (w.setCell ⟨g, k, none⟩ (.int .u8 z)) C l :=
  ⟨h.e.set hg (by decide) k _, fun f hf => (h.b f hf).set hg k _ (fun _ => ⟨z, rfl⟩), fun f hf => (h.d f hf).set g k _⟩
theorem Muts.setD {B : Nat} {w : World} {C : Option Addr} {l : List EvF} (h : Muts B w C l) {g : Nat} {cur : Array Value} (hg : w.heap[g]? = some (.cells cur 49 (0, 0))) (k : Nat) (u : Value) : Muts B (w.setCell ⟨g, k, none⟩ u) C l :=
  ⟨h.e.set hg (by decide) k _, fun f hf => (h.b f hf).set hg k _ (fun e => absurd e (by decide)), fun f hf => (h.d f hf).set g k _⟩
theorem own_mutB {B : Nat} {w : World} {A : Option Addr} {c : Nat} {bs : List Int} (h : w.ownsRow B 5 1 (.slice A bs.length c) bs.length (bs.map (Value.int .u8))) : MutB B w A bs.length := by
  rcases h.2 with ⟨_, h0⟩ | ⟨g, cap, cur, hv, hb, hg, hnc, hm, hs, hx⟩
  · exact .inl h0
  · injection hv with hA _ _
    refine .inr ⟨g, cur, hA, hb, hg, fun k hk => ⟨bs[k], ?_⟩⟩
    have h1 := h.cells (g := g) (by rw [ownBlock_slice, hA]; rfl) k (.int .u8 bs[k]) (by simp [hk])
    rw [Addr.add_lit, Nat.zero_add, cell_of_row w g k cur 5 (0, 0) hg] at h1
    exact h1
theorem own_mutD {B : Nat} {w : World} {D : Option Addr} {c : Nat} {dl : List Df} (h : w.ownsRow B 49 3 (.slice D dl.length c) dl.length (dfC dl)) : MutD B w D dl.length := by
  rcases h.2 with ⟨_, h0⟩ | ⟨g, cap, cur, hv, hb, hg, hnc, hm, hs, hx⟩
  · exact .inl h0
  · injection hv with hA _ _
    exact .inr ⟨g, cur, hA, hb, hg, by rw [hs]; exact Nat.mul_le_mul_right 3 hnc⟩
theorem own_mutE {B n c : Nat} {w : World} {C : Option Addr} {l : List EvF} (hl : l.length = n) (h : w.ownsRow B 28 9 (.slice C n c) n (eoC l)) : MutE w C l := by
  rcases h.2 with ⟨_, h0⟩ | ⟨g, cap, cur, hv, hb, hg, hnc, hm, hs, hx⟩
  · exact .inl (List.length_eq_zero_iff.1 (by omega))
  · injection hv with hA _ _
    refine .inr ⟨g, cur, hA, hg, fun j u hj => ?_⟩
    have h1 := h.cells (g := g) (by rw [ownBlock_slice, hA]; rfl) j u hj
    rw [Addr.add_lit, Nat.zero_add, cell_of_row w g j cur 28 (0, 0) hg] at h1
    exact h1
theorem CpyL.muts {B c n : Nat} {w : World} {C : Option Addr} {l : List EvF} (h : CpyL B w C c n l) : Muts B w C l :=
  ⟨own_mutE h.len h.own, fun f hf => own_mutB (h.ok f hf).a, fun f hf => own_mutD (h.ok f hf).d⟩
/-- What is read in a round. -/
theorem MutE.at {w : World} {C : Option Addr} {l : List EvF} (h : MutE w C l) (j : Nat) (hj : j < l.length) : ∃ g, C = some ⟨g, 0, none⟩ ∧ w.cell? ⟨g, j * 9 + 7, none⟩ = some (.slice l[j].A l[j].bs.length l[j].c) ∧ w.cell? ⟨g, j * 9 + 8, none⟩ = some (.slice l[j].D l[j].dl.length l[j].dc) := by
  rcases h with h | ⟨g, cur, hC, hg, hx⟩
  · subst h; simp at hj
  · obtain ⟨_, _, _, _, _, _, _, p7, p8⟩ := eoC_get l j hj
    refine ⟨g, hC, ?_, ?_⟩
    · rw [cell_of_row w g _ cur 28 (0, 0) hg]; exact hx _ _ p7
    · rw [cell_of_row w g _ cur 28 (0, 0) hg]; exact hx _ _ p8
theorem MutB.at {B : Nat} {w : World} {A : Option Addr} {n : Nat} (h : MutB B w A n) (k : Nat) (hk : k < n) : ∃ g cur, ∃ z : Int, A = some ⟨g, 0, none⟩ ∧ B ≤ g ∧ w.heap[g]? = some (.cells cur 5 (0, 0)) ∧ w.cell? ⟨g, k, none⟩ = some (.int .u8 z) ∧ w.frozen? ⟨g, k, none⟩ = false := by
  rcases h with h | ⟨g, cur, hA, hB, hg, hx⟩
  · omega
  · obtain ⟨z, hz⟩ := hx k hk
    exact ⟨g, cur, z, hA, hB, hg, by rw [cell_of_row w g _ cur 5 (0, 0) hg]; exact hz, by simp [World.frozen?, hg]⟩
theorem MutD.at {B : Nat} {w : World} {D : Option Addr} {n : Nat} (h : MutD B w D n) (k : Nat) (hk : k < n) : ∃ g cur, ∃ u : Value, D = some ⟨g, 0, none⟩ ∧ B ≤ g ∧ w.heap[g]? = some (.cells cur 49 (0, 0)) ∧ w.cell? ⟨g, k * 3 + 1, none⟩ = some u ∧ w.frozen? ⟨g, k * 3 + 1, none⟩ = false := by
  rcases h with h | ⟨g, cur, hD, hB, hg, hx⟩
  · omega
  · have hlt : k * 3 + 1 < cur.size := by omega
    exact ⟨g, cur, cur[k * 3 + 1], hD, hB, hg, by rw [cell_of_row w g _ cur 49 (0, 0) hg]; exact Array.getElem?_eq_getElem hlt, by simp [World.frozen?, hg]⟩
end Go.Proofs.YtngfimjbgopgjaaDoor
