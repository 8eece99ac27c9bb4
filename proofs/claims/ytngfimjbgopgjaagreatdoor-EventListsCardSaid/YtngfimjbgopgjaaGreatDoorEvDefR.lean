/- Contract of event.def at any reader. -/
import Derived.Test.YtngfimjbgopgjaaGreatDoorEvLayGA
import Derived.Test.YtngfimjbgopgjaaGreatDoorEvRead
namespace Go.Proofs.YtngfimjbgopgjaaGreatDoor
open Go.RowKit
set_option linter.unusedVariables false

/-- What is read of needs, of a Def, of Defs. -/
def needsR : Nat → Bool × List Int → List Int × Bool × List Int
  | 0, st => ([], st)
  | n + 1, st => if st.1 = true then ([], st) else ((numR st.1 st.2 1).1 :: (needsR n (numR st.1 st.2 1).2).1, (needsR n (numR st.1 st.2 1).2).2)
def defR (st : Bool × List Int) : (List Int × Int × Int) × Bool × List Int :=
  let t := numR st.1 st.2 1
  let l := numR t.2.1 t.2.2 8
  let n := numR l.2.1 l.2.2 1
  let r := needsR n.1.toNat n.2
  ((r.1, t.1, l.1), r.2)
theorem numR1_bd {lack : Bool} {xs : List Int} (h : ∀ x ∈ xs, 0 ≤ x ∧ x ≤ 255) : 0 ≤ (numR lack xs 1).1 ∧ (numR lack xs 1).1 ≤ 255 := by
  have h1 := takeR_bytes (lack := lack) (k := ((1 : Nat) : Int)) h
  have h2 := takeR_len (lack := lack) (xs := xs) (k := ((1 : Nat) : Int))
  simp only [numR]
  obtain ⟨l, hl⟩ : ∃ l, l = (takeR lack xs ((1 : Nat) : Int)).1 := ⟨_, rfl⟩
  rw [← hl] at h1 h2 ⊢
  exact match l, h1, h2 with
  | [], _, _ => by have h : getV [] = 0 := rfl; rw [h]; simp [wrap64]
  | [x], h1, _ => by
    have h3 := h1 x List.mem_cons_self
    have h4 : getV [x] = x := by simp [getV, IntKind.wrap_u64]
    rw [h4]
    have h5 : wrap64 x = x := by simp only [wrap64]; omega
    rw [h5]
    exact h3
  | _ :: _ :: _, _, h2 => by simp at h2; omega
theorem BoxAt.set3 {w : World} {g : Nat} {T : TypeId} {a0 a1 a2 : Value} (h : BoxAt w g T #[a0, a1, a2]) (u0 u1 u2 : Value) : BoxAt (((w.setCell ⟨g, 0, none⟩ u0).setCell ⟨g, 1, none⟩ u1).setCell ⟨g, 2, none⟩ u2) g T #[u0, u1, u2] := by
  unfold BoxAt at *
  simp [World.setCell, Array.getElem?_modify, h]
theorem chg_set3 (w : World) (g : Nat) (u0 u1 u2 : Value) : Chg (fun x => x = g) w (((w.setCell ⟨g, 0, none⟩ u0).setCell ⟨g, 1, none⟩ u1).setCell ⟨g, 2, none⟩ u2) :=
  (((Chg.refl (fun x => x = g) w).setCell (p := ⟨g, 0, none⟩) (.inl rfl) _).setCell (p := ⟨g, 1, none⟩) (.inl rfl) _).setCell (p := ⟨g, 2, none⟩) (.inl rfl) _
theorem defSize : (Tryz.prog.info? 85).map (·.size) = some 3 := by kernel_rfl
/-- What 'def' leaves. -/
def DGave (w : World) (p : Nat) (A : Option Addr) (r : (List Int × Int × Int) × Bool × List Int) (e : Ending) (w' : World) : Prop :=
  ∃ B d, e = .returned (.agg #[.slice B r.1.1.length d, .int .i64 r.1.2.1, .int .i64 r.1.2.2]) ∧ w'.ownsRow w.heap.size 3 1 (.slice B r.1.1.length d) r.1.1.length (r.1.1.map (Value.int .i64)) ∧ RTurned 104 w w' p A r.2

theorem needsR_lack (n : Nat) (ys : List Int) : needsR n (true, ys) = ([], true, ys) := by cases n <;> rfl

set_option maxHeartbeats 4000000 in
set_option maxRecDepth 20000 in
theorem def_any (p : Nat) (A : Option Addr) (c : Nat) (lack : Bool) (xs : List Int) (w : World) (hR : RAt 104 w p A c lack xs) (hby : ∀ x ∈ xs, 0 ≤ x ∧ x ≤ 255) :
    Calls Tryz.prog 66 #[.pointer (some ⟨p, 0, none⟩)] w (DGave w p A (defR (lack, xs))) := by
  obtain ⟨i0, hi, hz0, hz1, hz2⟩ := info_parts intInfo
  obtain ⟨⟨tr, lk1, ys1⟩, x1⟩ : ∃ r, numR lack xs 1 = r := ⟨_, rfl⟩
  obtain ⟨⟨le, lk2, ys2⟩, x2⟩ : ∃ r, numR lk1 ys1 8 = r := ⟨_, rfl⟩
  obtain ⟨⟨nn, lk3, ys3⟩, x3⟩ : ∃ r, numR lk2 ys2 1 = r := ⟨_, rfl⟩
  obtain ⟨⟨fin, st⟩, x4⟩ : ∃ r, needsR nn.toNat (lk3, ys3) = r := ⟨_, rfl⟩
  have hRe : defR (lack, xs) = ((fin, tr, le), st) := by simp only [defR, x1, x2, x3, x4]
  rw [hRe]
  clear hRe
  have X1 := Lib.hid x1
  have X2 := Lib.hid x2
  have X3 := Lib.hid x3
  have X4 := Lib.hid x4
  clear x1 x2 x3 x4
  have hR0 := hR.keep (S := fun _ => False) ((Chg.refl _ _).alloc (.cells #[.slice none 0 0, .int .i64 0, .int .i64 0] 85)) (fun h => h) (fun _ _ h => h)
  have bz := BoxAt.new w 85 #[.slice none 0 0, .int .i64 0, .int .i64 0]
  have hpl := hR.lt
  have hal : Chg (· = p) w (w.alloc (.cells #[.slice none 0 0, .int .i64 0, .int .i64 0] 85)) := (Chg.refl _ _).alloc _
  go_enter Tryz.func66, Tryz.ntmps66
  go_wp2_with (first
    | (go_at_call 63; go_must (refine (gu64_any p A1 c1 lk1 ys1 w1 r1).mono ?_; rw [X2.out]; rintro e w2 ⟨rfl, A2, c2, r2, hb2, hd2⟩; have hA2 : blk A2 = blk A ∨ blk A2 = none := (by rcases hb2 with h | h; (rw [h]; exact hb1); exact .inr h); have hd02 : Chg (· = p) w w2 := hd01.trans hd2 (fun x hx => .inl hx); have bz2 := (bz.keep hd1 (fun e => by omega)).keep hd2 (fun e => by omega); have r2a := r2.keep (S := fun _ => False) ((Chg.refl _ _).alloc (.cells #[.slice none 0 0, .int .i64 tr, .int .i64 le] 85)) (fun h => h) (fun _ _ h => h)))
    | (go_at_call 64; (with_reducible refine (gu8_any p A2 c2 lk2 ys2 _ r2a).mono ?_); rw [X3.out]; rintro e w3 ⟨rfl, A3, c3, r3, hb3, hd3⟩)
    | (go_at_call 64; go_must (refine (gu8_any p A c lack xs _ hR0).mono ?_; rw [X1.out]; rintro e w1 ⟨rfl, A1, c1, r1, hb1, hd1⟩; have hd01 : Chg (· = p) w w1 := hal.trans hd1 (fun x hx => .inl hx))))
  -- LOOP
  obtain ⟨gb, hgb⟩ : ∃ gb, gb = w2.heap.size := ⟨_, rfl⟩
  have hsz2 := hd02.size
  have bb := (BoxAt.new w2 85 #[.slice none 0 0, .int .i64 tr, .int .i64 le]).keep hd3 (fun (e : w2.heap.size = p) => by omega)
  have hA3 : blk A3 = blk A ∨ blk A3 = none := by rcases hb3 with h | h; (rw [h]; exact hA2); exact .inr h
  have hd03 : Chg (· = p) w w3 := (hd02.alloc _).trans hd3 (fun x hx => .inl hx)
  have hbz3 := (bz2.keep (S := fun _ => False) ((Chg.refl _ _).alloc (.cells #[.slice none 0 0, .int .i64 tr, .int .i64 le] 85)) (fun h => h)).keep hd3 (fun (e : w.heap.size = p) => by omega)
  have hnb := numR1_bd (lack := lk2) r2.byt
  rw [X3.out] at hnb
  obtain ⟨N, hN⟩ : ∃ N : Nat, nn = (N : Int) := ⟨nn.toNat, by have := hnb.1; simp only at this; omega⟩
  have hN255 : N ≤ 255 := by have := hnb.2; simp only at this; omega
  subst hN
  have hgw : w.heap.size < gb := by
    rw [hgb]
    have := hd2.size
    have := hd1.size
    simp at this
    omega
  rw [← hgb] at bb ⊢
  have hAl : ∀ x, blk A = some x → x < w.heap.size := hR.old
  clear hgb
  go_loopw [4] (fun i w' => ∃ (k : Nat) (l : List Int) (lk : Bool) (ys : List Int) (B : Option Addr) (d : Nat) (Ar : Option Addr) (cr : Nat), k ≤ N ∧ i = .int .i64 ((N : Int) - k) ∧ l.length = k ∧ BoxAt w' gb 85 #[.slice B k d, .int .i64 tr, .int .i64 le] ∧ w'.ownsRow w.heap.size 3 1 (.slice B k d) k (l.map (Value.int .i64)) ∧ RAt 104 w' p Ar cr lk ys ∧ (blk Ar = blk A ∨ blk Ar = none) ∧ (∀ x, In B x → x ≠ gb ∧ x ≠ w.heap.size) ∧ fin = l ++ (needsR (N - k) (lk, ys)).1 ∧ st = (needsR (N - k) (lk, ys)).2 ∧ BoxAt w' w.heap.size 85 #[.slice none 0 0, .int .i64 0, .int .i64 0] ∧ Chg (· = p) w w') (fun i _ => (intOf i).toNat)
  case atStart => exact ⟨0, [], lk3, ys3, none, 0, A3, c3, by omega, by simp, rfl, bb, World.ownsRow_nil _ _ _ _, r3, hA3, (by intro x hx; cases hx), by rw [Nat.sub_zero, List.nil_append]; exact (congrArg Prod.fst X4.out).symm.trans (by rw [Int.toNat_natCast]), by rw [Nat.sub_zero]; exact (congrArg Prod.snd X4.out).symm.trans (by rw [Int.toNat_natCast]), hbz3, hd03⟩
  case round =>
    clear bb r3 hA3 hbz3 hd03 r2 r2a hd3 hd2 hd1 hd01 hd02 r1 bz bz2 hR0 hal hb1 hb2 hb3 hA2
    obtain ⟨k, l, lk, ys, B, d, Ar, cr, hk, rfl, hl, bx, ho, hr, hAr, hBg, hf1, hf2, bz4, hc⟩ := hrel
    have HL := Lib.hid hl
    clear hl
    have hBz : ∀ x, In B x → x ≠ w.heap.size := fun x hx => (hBg x hx).2
    have q0 := bx.cell 0 rfl
    have q1 := bx.cell 1 rfl
    have q2 := bx.cell 2 rfl
    have v0 := bz4.cell 0 rfl
    have v1 := bz4.cell 1 rfl
    have v2 := bz4.cell 2 rfl
    have z0 := bz4.fz 0
    have z1 := bz4.fz 1
    have z2 := bz4.fz 2
    by_cases hkn : k < N
    · have n1 : (0 : Int) < (N : Int) - (k : Int) := by omega
      cases lk
      · obtain ⟨⟨v, lk', ys'⟩, y1⟩ : ∃ r, numR false ys 1 = r := ⟨_, rfl⟩
        have hst : needsR (N - k) (false, ys) = (v :: (needsR (N - (k + 1)) (lk', ys')).1, (needsR (N - (k + 1)) (lk', ys')).2) := by
          rw [show N - k = (N - (k + 1)) + 1 by omega]
          simp only [needsR, y1]
          rfl
        rw [hst] at hf1 hf2
        have Y1 := Lib.hid y1
        have HF1 := Lib.hid hf1
        have HF2 := Lib.hid hf2
        clear y1 hst hf1 hf2
        have hl1 : k + 1 ≤ maxLen := by simp only [maxLen]; omega
        have hl2 : (k + 1) * 8 ≤ 140737488355328 := by omega
        have hrd : RAt 104 wr.drew p Ar cr false ys := hr.keep ((Chg.refl (fun _ => False) wr).drew) (fun h => h) (fun _ _ h => h)
        have hgl := bx.lt
        have hBl : ∀ x, In B x → x < wr.heap.size := fun x hx => (own_lt ho hx).2
        have hgp : gb ≠ p := by omega
        go_wp2_with (go_at_call 35; go_must (refine (lack_any p Ar cr false ys _ hr).mono ?_; rintro e w' ⟨rfl, rfl⟩))
        go_region_law (first
          | (refine step_append_rd _ rfl (.tmp 22) (.tmp 25) 81 rfl w.heap.size 3 i0 _ 1 8 Tryz.underlying81 hi hz0 hz1 hz2 rfl (by decide) B k d (l.map (Value.int .i64)) (by simp [Act.eval]) (World.ownsRow.alloc ho6 _) (some ⟨w6.heap.size, 0, none⟩) 1 1 ([v].map (Value.int .i64)) (by simp [Act.eval]) rfl (by exact Rd.newRow w6 _ _ _ rfl) (ints_one _) hl1 hl2 hbase6 ?_; intro A7 c7 w7 hown7 hg7 hb7; have hc7 : Chg (In B) w6 w7 := ((Chg.refl _ w6).alloc _).trans hg7 (fun x hx => .inl hx); have y0 := hc7.cell_some (p := ⟨gb, 0, none⟩) d0 (fun h => (hBg gb h).1 rfl); have y1 : w7.frozen? ⟨gb, 0, none⟩ = false := (by rw [hc7.frozen (p := ⟨gb, 0, none⟩) bx6.lt (fun h => (hBg gb h).1 rfl)]; exact bx6.fz 0))
          | (go_simp; go_at_call 64; go_must (refine (gu8_any p Ar cr false ys _ hrd).mono ?_; rw [Y1.out]; rintro e w6 ⟨rfl, A6, c6, r6, hb6, hd6⟩; have hd6' : Chg (· = p) wr w6 := ((Chg.refl (· = p) wr).drew).trans hd6 (fun x hx => .inl hx); have bx6 := bx.keep hd6' hgp; have d0 := bx6.cell 0 rfl; have d1 : (w6.alloc (.cells #[.int .i64 v] 3)).cell? ⟨gb, 0, none⟩ = some (.slice B k d) := ((Chg.refl (fun _ => False) w6).alloc _).cell_some d0 (fun h => h); have ho6 := hd6'.ownS ho (fun x hx (e : x = p) => by have := (own_lt ho hx).1; omega); have hbase6 : w.heap.size ≤ (w6.alloc (.cells #[.int .i64 v] 3)).heap.size := (by have h1 := hd6'.size; have h2 := hc.size; simp; omega))))
        all_goals
          go_wp2_with fail
          have hsz6 := hd6'.size
          have hcS : Chg (fun x => x = gb) w7 (w7.setCell ⟨gb, 0, none⟩ (.slice A7 (k + 1) c7)) := (Chg.refl (fun x => x = gb) w7).setCell (p := ⟨gb, 0, none⟩) (.inl rfl) _
          have hA7 : ∀ x, In A7 x → In B x ∨ w6.heap.size ≤ x := fun x hx => by
            rcases hb7 with e | e
            · exact .inl (by show blk B = some x; rw [← e]; exact hx)
            · have h1 : blk A7 = some x := hx
              rw [e] at h1
              injection h1 with h1
              simp at h1
              exact .inr (by omega)
          have hA6 : blk A6 = blk A ∨ blk A6 = none := by rcases hb6 with h | h; (rw [h]; exact hAr); exact .inr h
          have hA6l : ∀ x, blk A6 = some x → x < w.heap.size := fun x hx => by
            rcases hA6 with h | h
            · exact hAl x (by rw [← h]; exact hx)
            · rw [h] at hx; cases hx
          have bx8 := (bx6.keep hc7 (fun h => (hBg gb h).1 rfl)).set 0 (.slice A7 (k + 1) c7)
          go_roundw
          case rel => exact ⟨k + 1, l ++ [v], lk', ys', A7, c7, A6, c6, by omega, by go_num, by rw [List.length_append, HL.out]; rfl, by simpa using bx8, by
              rw [List.map_append]
              exact hcS.ownS hown7 (fun x hx (e : x = gb) => by rcases hA7 x hx with h | h; exact (hBg x h).1 e; omega), (r6.keep hc7 (fun h => by have := (own_lt ho h).1; omega) (fun x hx h => by have h1 := (own_lt ho h).1; have h2 := hA6l x hx; omega)).keep hcS (fun (e : p = gb) => hgp e.symm) (fun x hx (e : x = gb) => by have h2 := hA6l x hx; omega), hA6, fun x hx => by
              rcases hA7 x hx with h | h
              · exact hBg x h
              · exact ⟨by omega, by omega⟩, by rw [HF1.out, List.append_assoc]; rfl, HF2.out, ((bz4.keep hd6' (fun (e : w.heap.size = p) => by omega)).keep hc7 (fun h => hBz _ h rfl)).keep hcS (fun (e : w.heap.size = gb) => by omega), ((hc.trans hd6' (fun x hx => .inl hx)).trans hc7 (fun x hx => .inr (own_lt ho hx).1)).trans hcS (fun x hx => .inr (by rw [hx]; omega))⟩
          case measure => simp [intOf]; omega
      · rw [needsR_lack] at hf1 hf2
        rw [List.append_nil] at hf1
        have HF1 := Lib.hid hf1
        have HF2 := Lib.hid hf2
        clear hf1 hf2
        go_wp2_with (go_at_call 35; go_must (refine (lack_any p Ar cr true ys _ hr).mono ?_; rintro e w' ⟨rfl, rfl⟩))
        (try simp only [Exit.inBlock, Exit.then])
        refine bodyPost_ret (results_cell_row rfl _ _ w.heap.size _ _ _ _ rfl (BoxAt.set3 bz4 _ _ _) Tryz.underlying85 rfl defSize) rfl ?_
        have hcS := chg_set3 wr w.heap.size (.slice B k d) (.int .i64 tr) (.int .i64 le)
        rw [HF1.out, HF2.out]
        exact ⟨B, d, by rw [HL.out], by rw [HL.out]; exact hcS.ownS ho (fun x hx (e : x = w.heap.size) => hBz x hx e), Ar, cr, hr.keep hcS (fun (e : p = w.heap.size) => by omega) (fun x hx (e : x = w.heap.size) => by
          rcases hAr with h1 | h1
          · have := hAl x (by rw [← h1]; exact hx); omega
          · rw [h1] at hx; cases hx), hAr, hc.trans hcS (fun x hx => .inr (by rw [hx]; exact Nat.le_refl _))⟩
    · have hke : k = N := by omega
      subst hke
      rw [Nat.sub_self] at hf1 hf2
      simp only [needsR, List.append_nil] at hf1 hf2
      have HF1 := Lib.hid hf1
      have HF2 := Lib.hid hf2
      clear hf1 hf2
      have n1 : ¬ (0 : Int) < (k : Int) - (k : Int) := by omega
      go_wp2_with fail
      (try simp only [Exit.inBlock, Exit.then])
      refine bodyPost_ret (results_cell_row rfl _ _ w.heap.size _ _ _ _ rfl (BoxAt.set3 bz4 _ _ _) Tryz.underlying85 rfl defSize) rfl ?_
      have hcS := chg_set3 wr w.heap.size (.slice B k d) (.int .i64 tr) (.int .i64 le)
      rw [HF1.out, HF2.out]
      exact ⟨B, d, by rw [HL.out], by rw [HL.out]; exact hcS.ownS ho (fun x hx (e : x = w.heap.size) => hBz x hx e), Ar, cr, hr.keep hcS (fun (e : p = w.heap.size) => by omega) (fun x hx (e : x = w.heap.size) => by
        rcases hAr with h1 | h1
        · have := hAl x (by rw [← h1]; exact hx); omega
        · rw [h1] at hx; cases hx), hAr, hc.trans hcS (fun x hx => .inr (by rw [hx]; exact Nat.le_refl _))⟩
end Go.Proofs.YtngfimjbgopgjaaGreatDoor
