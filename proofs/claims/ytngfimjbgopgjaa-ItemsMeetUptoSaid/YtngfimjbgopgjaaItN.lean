/- Contracts of cutoverref8.Versions and Common over few rising items. -/
import Derived.Test.YtngfimjbgopgjaaItM
namespace Go.Proofs.Ytngfimjbgopgjaa
open Go.RowKit
set_option linter.unusedVariables false

theorem rises_take {q : It} {l : List It} (h : rises q l) (k : Nat) : rises q (l.take k) := by
  induction l generalizing q k with
  | nil => simp [rises]
  | cons a l ih =>
    cases k with
    | zero => trivial
    | succ k => exact ⟨h.1, h.2.1, ih h.2.2 k⟩
theorem vers_next {l : List It} (h : rises (0, 0) l) (k : Nat) (hk : k < l.length) :
    versGo 0 (l.take (k + 1)) = versGo 0 (l.take k) ++ List.replicate (l[k].1.toNat - (versGo 0 (l.take k)).length) l[k].2 ∧ (versGo 0 (l.take k)).length < l[k].1.toNat := by
  have e : l.take (k + 1) = l.take k ++ [l[k]] := by rw [List.take_add_one, List.getElem?_eq_getElem hk]; rfl
  have h1 := rises_take h (k + 1)
  rw [e] at h1 ⊢
  obtain ⟨h2, h3, h4⟩ := rises_front h1
  have h5 := versGo_len (l.take k) (0, 0) h2 (by decide)
  have h6 := versGo_snoc (l.take k) (0, 0) l[k] h2 (by decide)
  have h7 := (rises_last h2).1
  simp only [Int.toNat_zero, Nat.sub_zero] at h5 h6 h7
  rw [h5]
  exact ⟨h6, by omega⟩

def slLen : Value → Nat
  | .slice _ n _ => n
  | _ => 0
/-- A new list of numbers. -/
def GivesIn (w : World) (l : List Int) (e : Ending) (w' : World) : Prop :=
  ∃ A c, e = .returned (.slice A l.length c) ∧ w'.ownsRow w.heap.size 3 1 (.slice A l.length c) l.length (l.map (Value.int .i64)) ∧ Chg (fun _ => False) w w'

set_option maxHeartbeats 2000000 in
set_option maxRecDepth 20000 in
theorem versions_any (A : Option Addr) (n c : Nat) (l : List It) (w : World) (h : RdIt w A l) (hf : Few l) (hn : l.length = n) :
    Calls Try.prog 111 #[.slice A n c] w (GivesIn w (versGo 0 l)) := by
  subst hn
  obtain ⟨i0, hi, hz0, hz1, hz2⟩ := info_parts intInfo
  have HA := Lib.hid h
  have hl6 := hf.len
  clear h
  go_enter Try.func111, Try.ntmps111
  go_wp2_with fail
  go_loopw [3, 4] (fun a i wr => ∃ k : Nat, k ≤ l.length ∧ i = .int .i64 k ∧ ∃ (X : List Int) (A : Option Addr) (c : Nat), X = versGo 0 (l.take k) ∧ a = .slice A X.length c ∧ wr.ownsRow w.heap.size 3 1 (.slice A X.length c) X.length (X.map (Value.int .i64)) ∧ Chg (fun _ => False) w wr) (fun _ i _ => l.length - (intOf i).toNat)
  case atStart => exact ⟨0, by omega, rfl, [], none, 0, rfl, rfl, World.ownsRow_nil _ _ _ _, Chg.refl _ _⟩
  case round =>
    obtain ⟨k, hk, rfl, X, A5, c5, hX, rfl, ho, hc⟩ := hrel
    by_cases hkn : k < l.length
    · obtain ⟨b, o, rfl, _⟩ := HA.out.at_ (k := 0) (by rw [itC_len]; omega)
      obtain ⟨n1, n2⟩ := vers_next hf.up k hkn
      rw [← hX] at n1 n2
      have hid : l[k].1 ≤ 30 := hf.small _ (List.getElem_mem _)
      have hcell : ∀ w', Chg (fun _ => False) w w' → w'.cell? ⟨b, o + k * 2, none⟩ = some (.int .i64 l[k].1) ∧ w'.cell? ⟨b, o + k * 2 + 1, none⟩ = some (.int .i64 l[k].2) := fun w' hw => it_cells (HA.out.keep hw (fun _ _ h => h)) k hkn
      obtain ⟨x, hx⟩ : ∃ x, x = l[k] := ⟨_, rfl⟩
      rw [← hx] at n1 n2 hid hcell
      have N1 := Lib.hid n1
      clear n1 hx hX
      obtain ⟨m, hm⟩ : ∃ m, m = X.length := ⟨_, rfl⟩
      rw [← hm] at ho n2 N1 ⊢
      obtain ⟨wo, rfl⟩ : ∃ wo : World, wo = wr := ⟨_, rfl⟩
      go_wp2_with fail
      go_loopw [3] (fun a wr => ∃ p : Nat, m ≤ p ∧ p ≤ x.1.toNat ∧ ∃ (A : Option Addr) (c : Nat), a = .slice A p c ∧ wr.ownsRow w.heap.size 3 1 (.slice A p c) p ((X ++ List.replicate (p - m) x.2).map (Value.int .i64)) ∧ Chg (fun _ => False) w wr) (fun a _ => x.1.toNat - slLen a)
      case atStart => exact ⟨m, by omega, by omega, A5, c5, rfl, by rw [Nat.sub_self]; simpa using ho, hc⟩
      case round =>
        clear hc ho
        obtain ⟨p, hp1, hp2, A6, c6, rfl, ho, hc⟩ := hrel
        obtain ⟨q0, q1⟩ := hcell wr hc
        by_cases hpx : (p : Int) < x.1
        · have hl1 : p + 1 ≤ maxLen := by simp only [maxLen]; omega
          have hl2 : (p + 1) * 8 ≤ 140737488355328 := by omega
          have hbase : w.heap.size ≤ (wr.alloc (.cells #[.int .i64 x.2] 3)).heap.size := by have := hc.size; simp; omega
          have hrep : Hid (X ++ List.replicate (p + 1 - m) x.2 = (X ++ List.replicate (p - m) x.2) ++ [x.2]) := Lib.hid (by rw [show p + 1 - m = (p - m) + 1 by omega, List.replicate_succ', List.append_assoc])
          go_wp2_with (at_builtin; refine wpList_append_rd _ rfl (.tmp 19) (.tmp 25) 45 rfl w.heap.size 3 i0 _ 1 8 Try.underlying45 hi hz0 hz1 hz2 rfl (by decide) A6 p c6 ((X ++ List.replicate (p - m) x.2).map (Value.int .i64)) rfl ((show wr.ownsRow _ _ _ _ _ _ from ho).alloc _) (some ⟨wr.heap.size, 0, none⟩) 1 1 [.int .i64 x.2] rfl rfl (Rd.new1 _ _ _) (one1 _ rfl) hl1 hl2 hbase ?_; intro A2 c2 w2 hown2 hg2 hb2)
          go_roundw
          case rel => exact ⟨p + 1, by omega, by omega, A2, c2, rfl, by rw [hrep.out, List.map_append]; exact hown2, ((hc.alloc _).trans hg2 (fun x hx => .inr (own_lt ho hx).1))⟩
          case measure => simp [slLen]; omega
        · have hpe : p = x.1.toNat := by omega
          have N2 : Hid (versGo 0 (l.take (k + 1)) = X ++ List.replicate (p - m) x.2) := Lib.hid (by rw [N1.out, hpe])
          have N3 : Hid ((X ++ List.replicate (p - m) x.2).length = p) := Lib.hid (by rw [List.length_append, List.length_replicate]; omega)
          go_wp2_with fail
          go_roundw
          case rel => exact ⟨k + 1, by omega, by go_num, X ++ List.replicate (p - m) x.2, A6, c6, N2.out.symm, by rw [N3.out], by rw [N3.out]; exact ho, hc⟩
          case measure => simp [intOf]; omega
    · have hkn' : k = l.length := by omega
      subst hkn'
      rw [List.take_length] at hX
      go_wp2_with fail
      go_ret
      exact ⟨A5, c5, by rw [← hX]; rfl, by rw [← hX]; exact ho, hc⟩

set_option maxHeartbeats 2000000 in
set_option maxRecDepth 20000 in
theorem refCommon_any (A B : Option Addr) (n m c d : Nat) (l l' : List It) (w : World) (ha : RdIt w A l) (hb : RdIt w B l') (hf : Few l) (hf' : Few l') (hn : l.length = n) (hm : l'.length = m) :
    Calls Try.prog 82 #[.slice A n c, .slice B m d] w fun e w' => e = .returned (.agg #[.int .i64 (refCommonL l l').1, .int .i64 (refCommonL l l').2]) ∧ Chg (fun _ => False) w w' := by
  subst hn hm
  have ha1 : RdIt (w.alloc (.cells #[.int .i64 0, .int .i64 0] 75)) A l := Rd.alloc ha _
  have hb1 : ∀ w', Chg (fun _ => False) (w.alloc (.cells #[.int .i64 0, .int .i64 0] 75)) w' → RdIt w' B l' := fun w' hw => (show RdIt (w.alloc (.cells #[.int .i64 0, .int .i64 0] 75)) B l' from Rd.alloc hb _).keep hw (fun _ _ h => h)
  have bx0 : BoxIt (w.alloc (.cells #[.int .i64 0, .int .i64 0] 75)) w.heap.size (0, 0) := BoxIt.new w (0, 0)
  have HR : Hid (refCommonL l l' = refGo 0 (0, 0) (versGo 0 l) (versGo 0 l')) := Lib.hid rfl
  have hlx : (versGo 0 l).length ≤ 1048576 := by
    have h1 := versGo_len l (0, 0) hf.up (by decide)
    simp only [Int.toNat_zero, Nat.sub_zero] at h1
    rw [h1]
    rcases List.eq_nil_or_concat l with rfl | ⟨l1, y, rfl⟩
    · decide
    · rw [List.concat_eq_append, lastOr_snoc]
      have := hf.small y (by simp)
      omega
  have hly : (versGo 0 l').length ≤ 1048576 := by
    have h1 := versGo_len l' (0, 0) hf'.up (by decide)
    simp only [Int.toNat_zero, Nat.sub_zero] at h1
    rw [h1]
    rcases List.eq_nil_or_concat l' with rfl | ⟨l1, y, rfl⟩
    · decide
    · rw [List.concat_eq_append, lastOr_snoc]
      have := hf'.small y (by simp)
      omega
  obtain ⟨X, hX⟩ : ∃ X, X = versGo 0 l := ⟨_, rfl⟩
  obtain ⟨Y, hY⟩ : ∃ Y, Y = versGo 0 l' := ⟨_, rfl⟩
  rw [← hX] at HR hlx
  rw [← hY] at HR hly
  have vx := versions_any A l.length c l _ ha1 hf rfl
  have vy := fun w' h => versions_any B l'.length d l' w' (hb1 w' h) hf' rfl
  rw [← hX] at vx
  rw [← hY] at vy
  clear hX hY ha hb ha1 hb1
  go_enter Try.func82, Try.ntmps82
  go_wp2_with (first
    | (go_at_call 111; (refine (vy _ hc1).mono ?_; rintro e w2 ⟨A2, c2, rfl, ho2, hc2⟩))
    | (go_at_call 111; go_must (refine vx.mono ?_; rintro e w1 ⟨A1, c1, rfl, ho1, hc1⟩)))
  have hcA : Chg (fun _ => False) w w2 := (((Chg.refl _ w).alloc _).trans hc1 (fun x hx => hx.elim)).trans hc2 (fun x hx => hx.elim)
  have bx1 : BoxIt (w2.alloc (.cells #[.int .i64 0, .int .i64 0] 75)) w.heap.size (0, 0) := ((bx0.keep hc1 (fun h => h)).keep hc2 (fun h => h)).keep (S := fun _ => False) ((Chg.refl _ _).alloc _) (fun h => h)
  have bx2 : BoxIt (w2.alloc (.cells #[.int .i64 0, .int .i64 0] 75)) w2.heap.size (0, 0) := BoxIt.new w2 (0, 0)
  have rx : Rd w2 A1 (X.map (Value.int .i64)) := (Rd.of_own ho1).keep hc2 (fun _ _ h => h)
  have ry : Rd w2 A2 (Y.map (Value.int .i64)) := Rd.of_own ho2
  have hg12 : w.heap.size < w2.heap.size := by have h1 := hc1.size; have h2 := hc2.size; simp at h1; omega
  have HX := Lib.hid rx
  have HY := Lib.hid ry
  obtain ⟨g, hg⟩ : ∃ g, g = w.heap.size := ⟨_, rfl⟩
  obtain ⟨g2, hg2⟩ : ∃ g2, g2 = w2.heap.size := ⟨_, rfl⟩
  have HG2 : Hid (g2 = w2.heap.size) := Lib.hid hg2
  have HG : Hid (g = w.heap.size) := Lib.hid hg
  rw [← hg] at bx1
  rw [← hg2] at bx2
  rw [← hg, ← hg2]
  rw [← hg, ← hg2] at hg12
  have hcB : Chg (fun x => x = g2) w2 (w2.alloc (.cells #[.int .i64 0, .int .i64 0] 75)) := (Chg.refl _ _).alloc _
  clear hg hg2 rx ry ho1 ho2 vx vy bx0 hc1 hc2
  have hne : g ≠ g2 := by omega
  go_loopw [8] (fun i wr => ∃ k : Nat, k ≤ X.length ∧ k ≤ Y.length ∧ i = .int .i64 k ∧ ∃ out : It, BoxIt wr g (0, 0) ∧ BoxIt wr g2 out ∧ refGo 0 (0, 0) X Y = refGo k out (X.drop k) (Y.drop k) ∧ Chg (fun _ => False) w2 wr) (fun i _ => X.length - (intOf i).toNat)
  case atStart => exact ⟨0, by omega, by omega, rfl, (0, 0), bx1, bx2, by simp, (Chg.refl _ _).alloc _⟩
  case round =>
    clear bx1 bx2 hcB
    obtain ⟨k, hk, hk', rfl, out, b1, b2, ht, hc⟩ := hrel
    have HT := Lib.hid ht
    clear ht
    have c2 := b1.c0
    have c3 := b1.c1
    have f2 := b1.fz 0
    have f3 := b1.fz 1
    have c0 := b2.c0
    have c1 := b2.c1
    have f0 := b2.fz 0
    have f1 := b2.fz 1
    have hG0 : ∀ (u : Value) (W : World), Chg (fun _ => False) w2 W → True := fun _ _ _ => trivial
    by_cases hk1 : k < X.length
    · by_cases hk2 : k < Y.length
      · obtain ⟨b, o, hA1, hq⟩ := (HX.out.keep hc (fun _ _ h => h)).at_ (k := k) (by simpa using hk1)
        obtain ⟨b', o', hA2, hq'⟩ := (HY.out.keep hc (fun _ _ h => h)).at_ (k := k) (by simpa using hk2)
        rw [List.getElem_map] at hq hq'
        subst hA1 hA2
        have hd1 : Hid (X.drop k = X[k] :: X.drop (k + 1)) := Lib.hid (List.drop_eq_getElem_cons hk1)
        have hd2 : Hid (Y.drop k = Y[k] :: Y.drop (k + 1)) := Lib.hid (List.drop_eq_getElem_cons hk2)
        obtain ⟨x, hx⟩ : ∃ x, x = X[k] := ⟨_, rfl⟩
        obtain ⟨y, hy⟩ : ∃ y, y = Y[k] := ⟨_, rfl⟩
        rw [← hx] at hq hd1
        rw [← hy] at hq' hd2
        clear hx hy
        by_cases hxy : x = y
        · subst hxy
          have hb : (x == x) = true := by simp
          have hk3 : k ≤ 1048576 := by omega
          go_wp2_with fail
          go_quiet (fail)
          go_wp2_with fail
          go_roundw
          case rel => exact ⟨k + 1, by omega, by omega, by go_num, ((k : Int) + 1, x), BoxIt.keep (S := fun z => z = g2) b1 ((((Chg.refl (fun z => z = g2) wr).drewN nq).setCell (p := ⟨g2, 0, none⟩) (.inl (rfl : g2 = g2)) _).setCell (p := ⟨g2, 1, none⟩) (.inl (rfl : g2 = g2)) _) hne, BoxIt.set (w := wr.drewN nq) b2 _ _, by rw [HT.out, hd1.out, hd2.out, refGo, if_pos rfl], ((hc.drewN nq).setCell (p := ⟨g2, 0, none⟩) (.inr (by rw [HG2.out]; exact Nat.le_refl _)) _).setCell (p := ⟨g2, 1, none⟩) (.inr (by rw [HG2.out]; exact Nat.le_refl _)) _⟩
          case measure => simp [intOf]; omega
        · have hb : (x == y) = false := by simpa using hxy
          have hb2 : decide (x = y) = false := by simpa using hxy
          go_wp2_with fail
          go_quiet (fail)
          go_wp2_with fail
          (try simp only [Exit.inBlock, Exit.then])
          refine bodyPost_ret (results_cell_row rfl _ _ g _ _ _ _ rfl (BoxIt.set (w := wr.drewN nq) b1 out.1 out.2) Try.underlying75 rfl itemSize) rfl ?_
          exact ⟨by rw [HR.out, HT.out, hd1.out, hd2.out, refGo, if_neg hxy], (((hcA.trans hc (fun x hx => hx.elim)).drewN nq).setCell (p := ⟨g, 0, none⟩) (.inr (by rw [HG.out]; exact Nat.le_refl _)) _).setCell (p := ⟨g, 1, none⟩) (.inr (by rw [HG.out]; exact Nat.le_refl _)) _⟩
      · have hend : Hid (refGo k out (X.drop k) (Y.drop k) = out) := Lib.hid (by rw [(List.drop_eq_nil_iff (l := Y) (i := k)).2 (by omega), refGo_nil_right])
        go_wp2_with fail
        go_quiet (fail)
        go_wp2_with fail
        (try simp only [Exit.inBlock, Exit.then])
        refine bodyPost_ret (results_cell_row rfl _ _ g _ _ _ _ rfl (BoxIt.set (w := wr.drewN nq) b1 out.1 out.2) Try.underlying75 rfl itemSize) rfl ?_
        exact ⟨by rw [HR.out, HT.out, hend.out], (((hcA.trans hc (fun x hx => hx.elim)).drewN nq).setCell (p := ⟨g, 0, none⟩) (.inr (by rw [HG.out]; exact Nat.le_refl _)) _).setCell (p := ⟨g, 1, none⟩) (.inr (by rw [HG.out]; exact Nat.le_refl _)) _⟩
    · have hend : Hid (refGo k out (X.drop k) (Y.drop k) = out) := Lib.hid (by rw [(List.drop_eq_nil_iff (l := X) (i := k)).2 (by omega), refGo_nil_left])
      go_wp2_with fail
      go_quiet (fail)
      go_wp2_with fail
      (try simp only [Exit.inBlock, Exit.then])
      refine bodyPost_ret (results_cell_row rfl _ _ g _ _ _ _ rfl (BoxIt.set (w := wr.drewN nq) b1 out.1 out.2) Try.underlying75 rfl itemSize) rfl ?_
      exact ⟨by rw [HR.out, HT.out, hend.out], (((hcA.trans hc (fun x hx => hx.elim)).drewN nq).setCell (p := ⟨g, 0, none⟩) (.inr (by rw [HG.out]; exact Nat.le_refl _)) _).setCell (p := ⟨g, 1, none⟩) (.inr (by rw [HG.out]; exact Nat.le_refl _)) _⟩
end Go.Proofs.Ytngfimjbgopgjaa
