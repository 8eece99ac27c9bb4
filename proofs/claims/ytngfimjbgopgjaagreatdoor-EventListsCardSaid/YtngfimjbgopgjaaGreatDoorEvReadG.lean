/- Contract of event.Read at any bytes (gen_evreadg.py). -/
import Derived.Test.YtngfimjbgopgjaaGreatDoorEvPure
namespace Go.Proofs.YtngfimjbgopgjaaGreatDoor
open Go.RowKit
set_option linter.unusedVariables false

/-- What Read leaves. -/
def ReadGave (w : World) (xs : List Int) (v : EvV) (e : Ending) (w' : World) : Prop :=
  ((v.right = true ∧ v.lay = xs ∧ ∃ (A' : Option Addr) (c' : Nat) (D : Option Addr) (dc : Nat) (dl : List Df), e = .returned (.tuple #[.agg #[.int .i64 v.id, .int .i64 v.ver, .int .i64 v.tm, .int .i64 v.ty, .int .i64 v.node, .int .i64 v.m, .string (strOfNums v.nb), .slice A' v.bs.length c', .slice D dl.length dc], .int .i64 0]) ∧ Rd w' A' (v.bs.map (Value.int .u8)) ∧ RdDf w' D dl ∧ dl.map Df.v = v.dv) ∨
    (¬ (v.right = true ∧ v.lay = xs) ∧ e = .returned (.tuple #[.agg #[.int .i64 0, .int .i64 0, .int .i64 0, .int .i64 0, .int .i64 0, .int .i64 0, .string { data := #[] }, .slice none 0 0, .slice none 0 0], .int .i64 5]))) ∧ Chg (fun _ => False) w w'

/-- What was read lies in blocks from B on. -/
structure DatY (B : Nat) (A : Option Addr) (bs : List Int) (D : Option Addr) (dl : List Df) : Prop where
  a : bs ≠ [] → ∀ x, blk A = some x → B ≤ x
  d : dl ≠ [] → ∀ x, blk D = some x → B ≤ x
  n : ∀ d ∈ dl, d.ns ≠ [] → ∀ x, blk d.A = some x → B ≤ x
/-- What Read leaves, and that it is new. -/
def ReadGaveY (w : World) (xs : List Int) (v : EvV) (e : Ending) (w' : World) : Prop :=
  ((v.right = true ∧ v.lay = xs ∧ ∃ (A' : Option Addr) (c' : Nat) (D : Option Addr) (dc : Nat) (dl : List Df), e = .returned (.tuple #[.agg #[.int .i64 v.id, .int .i64 v.ver, .int .i64 v.tm, .int .i64 v.ty, .int .i64 v.node, .int .i64 v.m, .string (strOfNums v.nb), .slice A' v.bs.length c', .slice D dl.length dc], .int .i64 0]) ∧ Rd w' A' (v.bs.map (Value.int .u8)) ∧ RdDf w' D dl ∧ dl.map Df.v = v.dv ∧ DatY w.heap.size A' v.bs D dl) ∨
    (¬ (v.right = true ∧ v.lay = xs) ∧ e = .returned (.tuple #[.agg #[.int .i64 0, .int .i64 0, .int .i64 0, .int .i64 0, .int .i64 0, .int .i64 0, .string { data := #[] }, .slice none 0 0, .slice none 0 0], .int .i64 5]))) ∧ Chg (fun _ => False) w w'

set_option maxHeartbeats 8000000 in
set_option maxRecDepth 20000 in
theorem readY_any (B : Option Addr) (n d : Nat) (xs : List Int) (w : World) (h : Rd w B (xs.map (Value.int .u8))) (hn : xs.length = n) (hn2 : n ≤ 140737488355328) (hby : ∀ x ∈ xs, 0 ≤ x ∧ x ≤ 255) :
    Calls Tryz.prog 30 #[.slice B n d] w (ReadGaveY w xs (readV xs)) := by
  obtain ⟨i0, hi, hz0, hz1, hz2⟩ := info_parts defInfo
  obtain ⟨⟨id, l1, r1⟩, x1⟩ : ∃ r, numR false xs 2 = r := ⟨_, rfl⟩
  obtain ⟨⟨ver, l2, r2⟩, x2⟩ : ∃ r, numR l1 r1 8 = r := ⟨_, rfl⟩
  obtain ⟨⟨tm, l3, r3⟩, x3⟩ : ∃ r, numR l2 r2 8 = r := ⟨_, rfl⟩
  obtain ⟨⟨ty, l4, r4⟩, x4⟩ : ∃ r, numR l3 r3 1 = r := ⟨_, rfl⟩
  obtain ⟨⟨node, l5, r5⟩, x5⟩ : ∃ r, numR l4 r4 1 = r := ⟨_, rfl⟩
  obtain ⟨⟨m, l6, r6⟩, x6⟩ : ∃ r, numR l5 r5 8 = r := ⟨_, rfl⟩
  obtain ⟨⟨nb, l7, r7⟩, x7⟩ : ∃ r, shortR l6 r6 = r := ⟨_, rfl⟩
  obtain ⟨⟨bs, l8, r8⟩, x8⟩ : ∃ r, shortR l7 r7 = r := ⟨_, rfl⟩
  obtain ⟨⟨nn, l9, r9⟩, x9⟩ : ∃ r, numR l8 r8 1 = r := ⟨_, rfl⟩
  obtain ⟨⟨dv, st⟩, x10⟩ : ∃ r, defsR nn.toNat (l9, r9) = r := ⟨_, rfl⟩
  have hv : readV xs = ⟨id, ver, tm, ty, node, m, nb, bs, dv⟩ := by simp only [readV, x1, x2, x3, x4, x5, x6, x7, x8, x9, x10]
  rw [hv]
  clear hv
  have X1 := Lib.hid x1
  have X2 := Lib.hid x2
  have X3 := Lib.hid x3
  have X4 := Lib.hid x4
  have X5 := Lib.hid x5
  have X6 := Lib.hid x6
  have X7 := Lib.hid x7
  have X8 := Lib.hid x8
  have X9 := Lib.hid x9
  have X10 := Lib.hid x10
  clear x1 x2 x3 x4 x5 x6 x7 x8 x9 x10
  have HB := Lib.hid h
  have HN := Lib.hid hn
  clear h hn
  have bz := BoxAt.new w 32 #[.int .i64 0, .int .i64 0, .int .i64 0, .int .i64 0, .int .i64 0, .int .i64 0, .string { data := #[] }, .slice none 0 0, .slice none 0 0]
  have hc0 : Chg (fun _ => False) w (w.alloc (.cells #[.int .i64 0, .int .i64 0, .int .i64 0, .int .i64 0, .int .i64 0, .int .i64 0, .string { data := #[] }, .slice none 0 0, .slice none 0 0] 32)) := (Chg.refl _ _).alloc _
  have hgz : w.heap.size < (w.alloc (.cells #[.int .i64 0, .int .i64 0, .int .i64 0, .int .i64 0, .int .i64 0, .int .i64 0, .string { data := #[] }, .slice none 0 0, .slice none 0 0] 32)).heap.size := by simp
  go_enter Tryz.func30, Tryz.ntmps30
  go_wp2_with (first
    | (go_at_call 64; have hr := r9'.keep (S := fun _ => False) ((Chg.refl _ w9).alloc (.cells #[.int .i64 id, .int .i64 ver, .int .i64 tm, .int .i64 ty, .int .i64 node, .int .i64 m, .string (strOfNums nb), .slice Ad bs.length cd, .slice none 0 0] 32)) (fun h => h) (fun _ _ h => h); (with_reducible refine (gu8_any p A9 c9 l8 r8 _ hr).mono ?_); rw [X9.out]; rintro e w10 ⟨rfl, A10, c10, r10', hb10, hd⟩; have hc9' : Chg (· = p) w1 w10 := (hc9.alloc _).trans hd (fun x hx => .inl hx); have hbE : BoxAt w10 w9.heap.size 32 #[.int .i64 id, .int .i64 ver, .int .i64 tm, .int .i64 ty, .int .i64 node, .int .i64 m, .string (strOfNums nb), .slice Ad bs.length cd, .slice none 0 0] := (BoxAt.new w9 _ _).keep hd (fun (e : w9.heap.size = p) => by have := r9'.lt; omega); have hRd : Rd w10 Ad (bs.map (Value.int .u8)) := (hBd.1.alloc _).keep hd (fun x hx (e : x = p) => by have h1 := hBd.2 x hx; have h2 := r8'.lt; omega); have hAd : ∀ x, blk Ad = some x → w8.heap.size ≤ x := hBd.2; have hsz10 := hd.size)
    | (go_at_call 36; (with_reducible refine (gshort_any p A8 c8 l7 r7 w8 r8').mono ?_); rw [X8.out]; rintro e w9 ⟨Ad, cd, rfl, hcd, hBd, hst⟩; obtain ⟨A9, c9, r9', hb9, hd⟩ := hst; have hc9 : Chg (· = p) w1 w9 := hc8.trans hd (fun x hx => .inl hx); clear hd)
    | (go_at_call 65; (with_reducible refine (gtext_any p A7 c7 l6 r6 w7 r7').mono ?_); rw [X7.out]; rintro e w8 ⟨rfl, hst⟩; obtain ⟨A8, c8, r8', hb8, hd⟩ := hst; have hc8 : Chg (· = p) w1 w8 := hc7.trans hd (fun x hx => .inl hx); clear hd)
    | (go_at_call 63; (with_reducible refine (gu64_any p A6 c6 l5 r5 w6 r6').mono ?_); rw [X6.out]; rintro e w7 ⟨rfl, A7, c7, r7', hb7, hd⟩; have hc7 : Chg (· = p) w1 w7 := hc6.trans hd (fun x hx => .inl hx); clear hd)
    | (go_at_call 64; (with_reducible refine (gu8_any p A5 c5 l4 r4 w5 r5').mono ?_); rw [X5.out]; rintro e w6 ⟨rfl, A6, c6, r6', hb6, hd⟩; have hc6 : Chg (· = p) w1 w6 := hc5.trans hd (fun x hx => .inl hx); clear hd)
    | (go_at_call 64; (with_reducible refine (gu8_any p A4 c4 l3 r3 w4 r4').mono ?_); rw [X4.out]; rintro e w5 ⟨rfl, A5, c5, r5', hb5, hd⟩; have hc5 : Chg (· = p) w1 w5 := hc4.trans hd (fun x hx => .inl hx); clear hd)
    | (go_at_call 63; (with_reducible refine (gu64_any p A3 c3 l2 r2 w3 r3').mono ?_); rw [X3.out]; rintro e w4 ⟨rfl, A4, c4, r4', hb4, hd⟩; have hc4 : Chg (· = p) w1 w4 := hc3.trans hd (fun x hx => .inl hx); clear hd)
    | (go_at_call 63; (with_reducible refine (gu64_any p A2 c2 l1 r1 w2 r2').mono ?_); rw [X2.out]; rintro e w3 ⟨rfl, A3, c3, r3', hb3, hd⟩; have hc3 : Chg (· = p) w1 w3 := hc2.trans hd (fun x hx => .inl hx); clear hd)
    | (go_at_call 34; (with_reducible refine (gu16_any p A1 c1 false xs w1 r1').mono ?_); rw [X1.out]; rintro e w2 ⟨rfl, A2, c2, r2', hb2, hd⟩; have hc2 : Chg (· = p) w1 w2 := hc1.trans hd (fun x hx => .inl hx); clear hd)
    | (go_at_call 33; go_must (refine (newR_any B d n xs _ (HB.out.alloc _) HN.out (by omega) hby).mono ?_; rintro e w1 ⟨p, A1, c1, rfl, r1', hA1, hp, hcw⟩; have hc1 : Chg (· = p) w1 w1 := Chg.refl _ _)))
  have hcA : Chg (fun _ => False) w w10 := (hc0.trans hcw (fun x hx => hx.elim)).trans hc9' (fun x hx => .inr (by rw [hx]; exact Nat.le_trans hc0.size hp))
  have bz10 := (bz.keep hcw (fun h => h)).keep hc9' (fun (e : w.heap.size = p) => by omega)
  have hnb := numR1_bd (lack := l8) r9'.byt
  rw [X9.out] at hnb
  obtain ⟨N, hN⟩ : ∃ N : Nat, nn = (N : Int) := ⟨nn.toNat, by have := hnb.1; simp only at this; omega⟩
  have hN255 : N ≤ 255 := by have := hnb.2; simp only at this; omega
  subst hN
  have hnbl : nb.length ≤ 140737488355328 := by
    have h1 := shortR_le (lack := l6) (xs := r6)
    rw [X7.out] at h1
    exact Nat.le_trans h1 r7'.len
  obtain ⟨ge, hge⟩ : ∃ ge, ge = w9.heap.size := ⟨_, rfl⟩
  rw [← hge] at hbE ⊢
  have hge10 : ge < w10.heap.size := hbE.lt
  have hpw : w.heap.size < p := by omega
  have hpg : p < ge := by have := r9'.lt; omega
  have hAdg : bs ≠ [] → ∀ x, blk Ad = some x → x ≠ ge ∧ x ≠ p ∧ x ≠ w.heap.size ∧ x < w10.heap.size := fun hbs x hx => by
    have h1 := hAd x hx
    have h2 := r8'.lt
    have h3 := hBd.1.old (by simpa using hbs) x hx
    omega
  have hAdY : bs ≠ [] → ∀ x, blk Ad = some x → w.heap.size ≤ x := fun hbs x hx => by
    have h1 := hAd x hx
    have h2 := r8'.lt
    omega
  have hp10 : p < w10.heap.size := r10'.lt
  have hA10g : ∀ x, blk A10 = some x → x < ge := fun x hx => by
    rcases hb10 with h | h
    · rw [hge]; exact r9'.old x (by rw [← h]; exact hx)
    · rw [h] at hx; cases hx
  have HGE := Lib.hid hge
  clear hge
  have hA10 : ∀ x, blk A10 = some x → x < w10.heap.size := r10'.old
  have hRd0 := hRd
  obtain ⟨base, hbase⟩ : ∃ base, base = w10.heap.size := ⟨_, rfl⟩
  rw [← hbase] at hge10 hp10 hAdg hA10
  have HBS := Lib.hid hbase
  clear hbase
  go_loopw [6] (fun i w' => ∃ (k : Nat) (dl : List Df) (lk : Bool) (ys : List Int) (D : Option Addr) (dc : Nat) (Ar : Option Addr) (cr : Nat), k ≤ N ∧ i = .int .i64 ((N : Int) - k) ∧ dl.length = k ∧ BoxAt w' ge 32 #[.int .i64 id, .int .i64 ver, .int .i64 tm, .int .i64 ty, .int .i64 node, .int .i64 m, .string (strOfNums nb), .slice Ad bs.length cd, .slice D k dc] ∧ w'.ownsRow base 85 3 (.slice D k dc) k (dfC dl) ∧ (∀ d ∈ dl, Rd w' d.A (d.ns.map (Value.int .i64)) ∧ d.ns.length ≤ 255 ∧ (d.ns ≠ [] → ∀ x, blk d.A = some x → base ≤ x ∧ x < w'.heap.size ∧ ¬ In D x)) ∧ RAt 104 w' p Ar cr lk ys ∧ (blk Ar = blk A10 ∨ blk Ar = none) ∧ dv = dl.map Df.v ++ (defsR (N - k) (lk, ys)).1 ∧ BoxAt w' w.heap.size 32 #[.int .i64 0, .int .i64 0, .int .i64 0, .int .i64 0, .int .i64 0, .int .i64 0, .string { data := #[] }, .slice none 0 0, .slice none 0 0] ∧ Chg (fun x => x = p ∨ x = ge) w10 w') (fun i _ => (intOf i).toNat)
  case atStart => exact ⟨0, [], l9, r9, none, 0, A10, c10, by omega, by simp, rfl, hbE, World.ownsRow_nil _ _ _ _, (fun d hd => by cases hd), r10', .inl rfl, by rw [Nat.sub_zero, List.map_nil, List.nil_append]; exact (congrArg Prod.fst X10.out).symm.trans (by rw [Int.toNat_natCast]), bz10, Chg.refl _ _⟩
  case round =>
    clear hbE bz10 r1' r2' r3' r4' r5' r6' r7' r8' r9' r10' hr hc1 hc2 hc3 hc4 hc5 hc6 hc7 hc8 hc9 hc9' hb2 hb3 hb4 hb5 hb6 hb7 hb8 hb9 hb10 bz hd hBd hnb hRd
    obtain ⟨k, dl, lk, ys, D, dc, Ar, cr, hk, rfl, hl, bx, ho, hds, hr, hAr, hdv, bz, hc⟩ := hrel
    have HL := Lib.hid hl
    have HDS := Lib.hid hds
    clear hl hds
    have hsw := hc.size
    by_cases hgo : k < N ∧ lk = false
    · obtain ⟨hkn, rfl⟩ := hgo
      have n1 : (0 : Int) < (N : Int) - (k : Int) := by omega
      obtain ⟨⟨⟨ns, tr, le⟩, lk', ys'⟩, y1⟩ : ∃ r, defR (false, ys) = r := ⟨_, rfl⟩
      have hst : (defsR (N - k) (false, ys)).1 = (ns, tr, le) :: (defsR (N - (k + 1)) (lk', ys')).1 := by
        rw [show N - k = (N - (k + 1)) + 1 by omega]
        simp only [defsR, y1]
        rfl
      rw [hst] at hdv
      have hnl := defR_len (st := (false, ys)) hr.byt
      rw [y1] at hnl
      have Y1 := Lib.hid y1
      have HDV := Lib.hid hdv
      clear y1 hst hdv
      have hl1 : k + 1 ≤ maxLen := by simp only [maxLen]; omega
      have hl2 : (k + 1) * 40 ≤ 140737488355328 := by omega
      have hrd : RAt 104 wr.drew p Ar cr false ys := hr.keep ((Chg.refl (fun _ => False) wr).drew) (fun h => h) (fun _ _ h => h)
      have hgp : ge ≠ p := by omega
      have hgD : ¬ In D ge := fun h => by have := (own_lt ho h).1; omega
      have q8 := bx.cell 8 rfl
      have hdef := def_any p Ar cr false ys wr.drew hrd hr.byt
      rw [Y1.out] at hdef
      go_wp2_with (go_at_call 35; go_must (refine (lack_any p Ar cr false ys _ hr).mono ?_; rintro e w' ⟨rfl, rfl⟩))
      go_region_law (first
        | (refine step_append_rd _ rfl (.tmp 40) (.tmp 43) 30 rfl base 85 i0 _ 3 40 Tryz.underlying30 hi hz0 hz1 hz2 rfl (by decide) D k dc (dfC dl) (by simp [Act.eval]) (World.ownsRow.alloc ho6 _) (some ⟨w6.heap.size, 0, none⟩) 1 1 (dfC [⟨Bd, dd, ns, tr, le⟩]) (by simp [Act.eval]) rfl (by exact Rd.newRow w6 _ _ _ rfl) (dfC_one _) hl1 hl2 hbase6 ?_; intro A7 c7 w7 hown7 hg7 hb7; have hc7 : Chg (In D) w6 w7 := ((Chg.refl _ w6).alloc _).trans hg7 (fun x hx => .inl hx); have y0 := hc7.cell_some (p := ⟨ge, 8, none⟩) d0 hgD; have y1 : w7.frozen? ⟨ge, 8, none⟩ = false := (by rw [hc7.frozen (p := ⟨ge, 8, none⟩) bx6.lt hgD]; exact bx6.fz 8))
        | (go_simp; go_at_call 66; go_must (refine hdef.mono ?_; rintro e w6 ⟨Bd, dd, rfl, hod, A6, c6, r6, hb6, hd6⟩; have hd6' : Chg (· = p) wr w6 := ((Chg.refl (· = p) wr).drew).trans hd6 (fun x hx => .inl hx); have bx6 := bx.keep hd6' hgp; have d0 := bx6.cell 8 rfl; have d1 : (w6.alloc (.cells #[.slice Bd ns.length dd, .int .i64 tr, .int .i64 le] 85)).cell? ⟨ge, 8, none⟩ = some (.slice D k dc) := ((Chg.refl (fun _ => False) w6).alloc _).cell_some d0 (fun h => h); have ho6 := hd6'.ownS ho (fun x hx (e : x = p) => by have := (own_lt ho hx).1; omega); have hbase6 : base ≤ (w6.alloc (.cells #[.slice Bd ns.length dd, .int .i64 tr, .int .i64 le] 85)).heap.size := (by have h1 := hd6'.size; have h2 := HBS.out; simp; omega))))
      all_goals
        go_wp2_with fail
        have hsz6 := hd6'.size
        have hsz7 := hc7.size
        have hcS : Chg (fun x => x = ge) w7 (w7.setCell ⟨ge, 8, none⟩ (.slice A7 (k + 1) c7)) := (Chg.refl (fun x => x = ge) w7).setCell (p := ⟨ge, 8, none⟩) (.inl rfl) _
        have hszS := hcS.size
        have hDl : ∀ x, In D x → base ≤ x ∧ x < wr.heap.size := fun x hx => own_lt ho hx
        have hA7 : ∀ x, In A7 x → In D x ∨ w6.heap.size ≤ x := fun x hx => by
          rcases hb7 with e | e
          · exact .inl (by show blk D = some x; rw [← e]; exact hx)
          · have h1 : blk A7 = some x := hx
            rw [e] at h1
            injection h1 with h1
            simp at h1
            exact .inr (by omega)
        have hA6 : blk A6 = blk A10 ∨ blk A6 = none := by rcases hb6 with h | h; (rw [h]; exact hAr); exact .inr h
        have hA6l : ∀ x, blk A6 = some x → x < base := fun x hx => by
          rcases hA6 with h | h
          · exact hA10 x (by rw [← h]; exact hx)
          · rw [h] at hx; cases hx
        have hA6g : ∀ x, blk A6 = some x → x < ge := fun x hx => by
          rcases hA6 with h | h
          · exact hA10g x (by rw [← h]; exact hx)
          · rw [h] at hx; cases hx
        have hBdl : ∀ x, blk Bd = some x → wr.heap.size ≤ x ∧ x < w6.heap.size := fun x hx => own_lt hod hx
        have hnew : Rd (w7.setCell ⟨ge, 8, none⟩ (.slice A7 (k + 1) c7)) Bd (ns.map (Value.int .i64)) := ((Rd.of_own hod).keep hc7 (fun x hx h => by have h1 := hBdl x hx; have h2 := hDl x h; omega)).keep hcS (fun x hx (e : x = ge) => by have h1 := hBdl x hx; have h2 := HBS.out; omega)
        have bx8 := (bx6.keep hc7 hgD).set 8 (.slice A7 (k + 1) c7)
        have hbw := HBS.out
        go_roundw
        case rel => exact ⟨k + 1, dl ++ [⟨Bd, dd, ns, tr, le⟩], lk', ys', A7, c7, A6, c6, by omega, by go_num, by rw [List.length_append, HL.out]; rfl, by simpa using bx8, by
            rw [dfC_app]
            exact hcS.ownS hown7 (fun x hx (e : x = ge) => by rcases hA7 x hx with h | h; (have := hDl x h; omega); omega), (by
            intro d1 hd1
            rcases List.mem_append.1 hd1 with hd1 | hd1
            · obtain ⟨g1, g2, g3⟩ := HDS.out d1 hd1
              have g4 : d1.ns.map (Value.int .i64) ≠ [] → d1.ns ≠ [] := fun hne e => hne (by rw [e]; rfl)
              exact ⟨((g1.keep' hd6' (fun hne x hx (e : x = p) => by have := g3 (g4 hne) x hx; omega)).keep' hc7 (fun hne x hx h => (g3 (g4 hne) x hx).2.2 h)).keep' hcS (fun hne x hx (e : x = ge) => by have := g3 (g4 hne) x hx; omega), g2, fun hne x hx => by
                obtain ⟨k1, k2, k3⟩ := g3 hne x hx
                exact ⟨k1, by omega, fun h => by rcases hA7 x h with h | h; exact k3 h; omega⟩⟩
            · simp only [List.mem_singleton] at hd1
              subst hd1
              exact ⟨hnew, hnl, fun hne x hx => by
                have h1 := hBdl x hx
                exact ⟨by omega, by omega, fun h => by rcases hA7 x h with h | h; (have := hDl x h; omega); omega⟩⟩), (r6.keep hc7 (fun h => by have := hDl _ h; omega) (fun x hx h => by have h1 := hDl x h; have h2 := hA6l x hx; omega)).keep hcS (fun (e : p = ge) => by omega) (fun x hx (e : x = ge) => by have h2 := hA6g x hx; omega), hA6, by rw [HDV.out, List.map_append, List.append_assoc]; rfl, ((bz.keep hd6' (fun (e : w.heap.size = p) => by omega)).keep hc7 (fun h => by have := hDl _ h; omega)).keep hcS (fun (e : w.heap.size = ge) => by omega), ((hc.trans hd6' (fun x hx => .inl (.inl hx))).trans hc7 (fun x hx => .inr (by have := hDl x hx; omega))).trans hcS (fun x hx => .inl (.inr hx))⟩
        case measure => simp [intOf]; omega
    · have hend : (defsR (N - k) (lk, ys)).1 = [] := by
        by_cases hkn : k < N
        · cases lk
          · exact absurd ⟨hkn, rfl⟩ hgo
          · rw [defsR_lack]
        · rw [show N - k = 0 by omega]; rfl
      rw [hend, List.append_nil] at hdv
      clear hend
      subst hdv
      have hbw := HBS.out
      have hDl : ∀ x, In D x → base ≤ x ∧ x < wr.heap.size := fun x hx => own_lt ho hx
      have hcw : Chg (fun _ => False) w wr := hcA.trans hc (fun x hx => .inr (by rcases hx with hx | hx <;> omega))
      have hRdw : Rd wr Ad (bs.map (Value.int .u8)) := hRd0.keep' hc (fun hne x hx h => by
        have h1 := hAdg (fun e => hne (by rw [e]; rfl)) x hx
        rcases h with h | h
        · exact h1.2.1 h
        · exact h1.1 h)
      have hD : RdDf wr D dl := ⟨Rd.of_own ho, fun d1 hd1 => (HDS.out d1 hd1).1⟩
      have hlay := layG_any id ver tm ty node m (strOfNums nb) Ad bs.length cd bs D k dc dl wr hRdw rfl (by rw [strOfNums_size]; exact hnbl) hD HL.out (by omega) (fun d1 hd1 => by have := (HDS.out d1 hd1).2.1; omega)
      have q0 := bx.cell 0 rfl
      have q1 := bx.cell 1 rfl
      have q2 := bx.cell 2 rfl
      have q3 := bx.cell 3 rfl
      have q4 := bx.cell 4 rfl
      have q5 := bx.cell 5 rfl
      have q6 := bx.cell 6 rfl
      have q7 := bx.cell 7 rfl
      have q8 := bx.cell 8 rfl
      by_cases hkn : k < N
      · have hlk : lk = true := by
          cases lk
          · exact absurd ⟨hkn, rfl⟩ hgo
          · rfl
        subst hlk
        have n1 : (0 : Int) < (N : Int) - (k : Int) := by omega
        cases hb : rightEB id ver tm ty node m (strOfNums nb) bs.length (dl.map Df.v)
        · have hlay2 := hlay.mono (R' := fun e w' => e = .returned (.tuple #[.slice none 0 0, .int .i64 1]) ∧ Chg (fun _ => False) wr w') (fun e w' h => by
            rcases h with ⟨h | h, hc⟩
            · rw [hb] at h; cases h.1
            · exact ⟨h.2, hc⟩)
          have HBB := Lib.hid hb
          clear hlay hb
          go_wp2_with (first
            | (go_at_call 35; go_must (refine (lack_any p Ar cr true ys _ hr).mono ?_; rintro e w' ⟨rfl, rfl⟩))
            | (go_at_call 22; go_must (refine hlay2.mono ?_; rintro e w11 ⟨rfl, hc11⟩; have bz12 := bz.keep hc11 (fun h => h); have t0 := bz12.cell 0 rfl; have t1 := bz12.cell 1 rfl; have t2 := bz12.cell 2 rfl; have t3 := bz12.cell 3 rfl; have t4 := bz12.cell 4 rfl; have t5 := bz12.cell 5 rfl; have t6 := bz12.cell 6 rfl; have t7 := bz12.cell 7 rfl; have t8 := bz12.cell 8 rfl; have z0 := bz12.fz 0; have z1 := bz12.fz 1; have z2 := bz12.fz 2; have z3 := bz12.fz 3; have z4 := bz12.fz 4; have z5 := bz12.fz 5; have z6 := bz12.fz 6; have z7 := bz12.fz 7; have z8 := bz12.fz 8)))
          (try simp only [Exit.inBlock, Exit.then])
          refine bodyPost_ret (results_cell_row_tmp rfl _ _ w.heap.size _ _ _ _ rfl (BoxAt.set9 bz12 _ _ _ _ _ _ _ _ _) Tryz.underlying32 rfl evSize) rfl ?_
          exact ⟨.inr ⟨fun h => by have h1 := h.1; rw [EvV.right] at h1; simp only at h1; rw [HBB.out] at h1; exact Bool.noConfusion h1, rfl⟩, (hcw.trans hc11 (fun x hx => hx.elim)).trans (chg_set9 _ w.heap.size _ _ _ _ _ _ _ _ _) (fun x hx => .inr (by rw [hx]; exact Nat.le_refl _))⟩
        · have hlay2 := hlay.mono (R' := fun e w' => (∃ A' c', e = .returned (.tuple #[.slice A' (evGB id ver tm ty node m (strOfNums nb) bs (dl.map Df.v)).length c', .int .i64 0]) ∧ w'.ownsRow wr.heap.size 5 1 (.slice A' (evGB id ver tm ty node m (strOfNums nb) bs (dl.map Df.v)).length c') (evGB id ver tm ty node m (strOfNums nb) bs (dl.map Df.v)).length ((evGB id ver tm ty node m (strOfNums nb) bs (dl.map Df.v)).map (Value.int .u8))) ∧ Chg (fun _ => False) wr w') (fun e w' h => by
            rcases h with ⟨h | h, hc⟩
            · exact ⟨h.2, hc⟩
            · rw [hb] at h; cases h.1)
          have hevl := evGB_len hb
          have HBB := Lib.hid hb
          clear hlay hb
          by_cases heq : evGB id ver tm ty node m (strOfNums nb) bs (dl.map Df.v) = xs
          · have HEQ := Lib.hid heq
            clear heq
            go_wp2_with (first
              | (go_at_call 35; go_must (refine (lack_any p Ar cr true ys _ hr).mono ?_; rintro e w' ⟨rfl, rfl⟩))
              | (go_at_call 22; go_must (refine hlay2.mono ?_; rintro e w11 ⟨⟨A11, c11, rfl, ho11⟩, hc11⟩; have hbE11 := bx.keep hc11 (fun h => h); have bz11 := bz.keep hc11 (fun h => h)))
              | (go_at_call 37; go_must (refine (equalB_short A11 B (evGB id ver tm ty node m (strOfNums nb) bs (dl.map Df.v)).length n c11 d _ xs w11 (Rd.of_own ho11) ((HB.out.keep hcw (fun _ _ h => h)).keep hc11 (fun _ _ h => h)) rfl HN.out (by omega)).mono ?_; rintro e w12 ⟨rfl, hc12⟩; rw [decide_eq_true HEQ.out]; have hbE12 := hbE11.keep hc12 (fun h => h); have bz12 := bz11.keep hc12 (fun h => h); have s0 := hbE12.cell 0 rfl; have s1 := hbE12.cell 1 rfl; have s2 := hbE12.cell 2 rfl; have s3 := hbE12.cell 3 rfl; have s4 := hbE12.cell 4 rfl; have s5 := hbE12.cell 5 rfl; have s6 := hbE12.cell 6 rfl; have s7 := hbE12.cell 7 rfl; have s8 := hbE12.cell 8 rfl; have t0 := bz12.cell 0 rfl; have t1 := bz12.cell 1 rfl; have t2 := bz12.cell 2 rfl; have t3 := bz12.cell 3 rfl; have t4 := bz12.cell 4 rfl; have t5 := bz12.cell 5 rfl; have t6 := bz12.cell 6 rfl; have t7 := bz12.cell 7 rfl; have t8 := bz12.cell 8 rfl; have z0 := bz12.fz 0; have z1 := bz12.fz 1; have z2 := bz12.fz 2; have z3 := bz12.fz 3; have z4 := bz12.fz 4; have z5 := bz12.fz 5; have z6 := bz12.fz 6; have z7 := bz12.fz 7; have z8 := bz12.fz 8)))
            (try simp only [Exit.inBlock, Exit.then])
            refine bodyPost_ret (results_cell_row_tmp rfl _ _ w.heap.size _ _ _ _ rfl (BoxAt.set9 bz12 _ _ _ _ _ _ _ _ _) Tryz.underlying32 rfl evSize) rfl ?_
            have hcS := chg_set9 w12 w.heap.size (.int .i64 id) (.int .i64 ver) (.int .i64 tm) (.int .i64 ty) (.int .i64 node) (.int .i64 m) (.string (strOfNums nb)) (.slice Ad bs.length cd) (.slice D k dc)
            have hc1112 := hc11.trans hc12 (fun x hx => hx.elim)
            exact ⟨.inl ⟨HBB.out, HEQ.out, Ad, cd, D, dc, dl, by rw [HL.out]; rfl, (hRdw.keep hc1112 (fun _ _ h => h)).keep' hcS (fun hne x hx (e : x = w.heap.size) => (hAdg (fun e => hne (by rw [e]; rfl)) x hx).2.2.1 e), (hD.still hc1112).keep hcS (fun hne x hx (e : x = w.heap.size) => by have := hDl x hx; omega) (fun d1 hd1 hne x hx (e : x = w.heap.size) => by have := ((HDS.out d1 hd1).2.2 hne x hx).1; omega), rfl, ⟨hAdY, fun hne x hx => by have := hDl x hx; omega, fun d1 hd1 hne x hx => by have := ((HDS.out d1 hd1).2.2 hne x hx).1; omega⟩⟩, (hcw.trans hc1112 (fun x hx => hx.elim)).trans hcS (fun x hx => .inr (by rw [hx]; exact Nat.le_refl _))⟩
          · go_wp2_with (first
              | (go_at_call 35; go_must (refine (lack_any p Ar cr true ys _ hr).mono ?_; rintro e w' ⟨rfl, rfl⟩))
              | (go_at_call 22; go_must (refine hlay2.mono ?_; rintro e w11 ⟨⟨A11, c11, rfl, ho11⟩, hc11⟩; have hbE11 := bx.keep hc11 (fun h => h); have bz11 := bz.keep hc11 (fun h => h)))
              | (go_at_call 37; go_must (refine (equalB_short A11 B (evGB id ver tm ty node m (strOfNums nb) bs (dl.map Df.v)).length n c11 d _ xs w11 (Rd.of_own ho11) ((HB.out.keep hcw (fun _ _ h => h)).keep hc11 (fun _ _ h => h)) rfl HN.out (by omega)).mono ?_; rintro e w12 ⟨rfl, hc12⟩; rw [decide_eq_false heq]; have bz12 := bz11.keep hc12 (fun h => h); have t0 := bz12.cell 0 rfl; have t1 := bz12.cell 1 rfl; have t2 := bz12.cell 2 rfl; have t3 := bz12.cell 3 rfl; have t4 := bz12.cell 4 rfl; have t5 := bz12.cell 5 rfl; have t6 := bz12.cell 6 rfl; have t7 := bz12.cell 7 rfl; have t8 := bz12.cell 8 rfl; have z0 := bz12.fz 0; have z1 := bz12.fz 1; have z2 := bz12.fz 2; have z3 := bz12.fz 3; have z4 := bz12.fz 4; have z5 := bz12.fz 5; have z6 := bz12.fz 6; have z7 := bz12.fz 7; have z8 := bz12.fz 8)))
            (try simp only [Exit.inBlock, Exit.then])
            refine bodyPost_ret (results_cell_row_tmp rfl _ _ w.heap.size _ _ _ _ rfl (BoxAt.set9 bz12 _ _ _ _ _ _ _ _ _) Tryz.underlying32 rfl evSize) rfl ?_
            exact ⟨.inr ⟨fun h => heq h.2, rfl⟩, ((hcw.trans hc11 (fun x hx => hx.elim)).trans hc12 (fun x hx => hx.elim)).trans (chg_set9 _ w.heap.size _ _ _ _ _ _ _ _ _) (fun x hx => .inr (by rw [hx]; exact Nat.le_refl _))⟩
      · have hke : k = N := by omega
        subst hke
        have n1 : ¬ (0 : Int) < (k : Int) - (k : Int) := by omega
        cases hb : rightEB id ver tm ty node m (strOfNums nb) bs.length (dl.map Df.v)
        · have hlay2 := hlay.mono (R' := fun e w' => e = .returned (.tuple #[.slice none 0 0, .int .i64 1]) ∧ Chg (fun _ => False) wr w') (fun e w' h => by
            rcases h with ⟨h | h, hc⟩
            · rw [hb] at h; cases h.1
            · exact ⟨h.2, hc⟩)
          have HBB := Lib.hid hb
          clear hlay hb
          go_wp2_with (first
            | (go_at_call 22; go_must (refine hlay2.mono ?_; rintro e w11 ⟨rfl, hc11⟩; have bz12 := bz.keep hc11 (fun h => h); have t0 := bz12.cell 0 rfl; have t1 := bz12.cell 1 rfl; have t2 := bz12.cell 2 rfl; have t3 := bz12.cell 3 rfl; have t4 := bz12.cell 4 rfl; have t5 := bz12.cell 5 rfl; have t6 := bz12.cell 6 rfl; have t7 := bz12.cell 7 rfl; have t8 := bz12.cell 8 rfl; have z0 := bz12.fz 0; have z1 := bz12.fz 1; have z2 := bz12.fz 2; have z3 := bz12.fz 3; have z4 := bz12.fz 4; have z5 := bz12.fz 5; have z6 := bz12.fz 6; have z7 := bz12.fz 7; have z8 := bz12.fz 8)))
          (try simp only [Exit.inBlock, Exit.then])
          refine bodyPost_ret (results_cell_row_tmp rfl _ _ w.heap.size _ _ _ _ rfl (BoxAt.set9 bz12 _ _ _ _ _ _ _ _ _) Tryz.underlying32 rfl evSize) rfl ?_
          exact ⟨.inr ⟨fun h => by have h1 := h.1; rw [EvV.right] at h1; simp only at h1; rw [HBB.out] at h1; exact Bool.noConfusion h1, rfl⟩, (hcw.trans hc11 (fun x hx => hx.elim)).trans (chg_set9 _ w.heap.size _ _ _ _ _ _ _ _ _) (fun x hx => .inr (by rw [hx]; exact Nat.le_refl _))⟩
        · have hlay2 := hlay.mono (R' := fun e w' => (∃ A' c', e = .returned (.tuple #[.slice A' (evGB id ver tm ty node m (strOfNums nb) bs (dl.map Df.v)).length c', .int .i64 0]) ∧ w'.ownsRow wr.heap.size 5 1 (.slice A' (evGB id ver tm ty node m (strOfNums nb) bs (dl.map Df.v)).length c') (evGB id ver tm ty node m (strOfNums nb) bs (dl.map Df.v)).length ((evGB id ver tm ty node m (strOfNums nb) bs (dl.map Df.v)).map (Value.int .u8))) ∧ Chg (fun _ => False) wr w') (fun e w' h => by
            rcases h with ⟨h | h, hc⟩
            · exact ⟨h.2, hc⟩
            · rw [hb] at h; cases h.1)
          have hevl := evGB_len hb
          have HBB := Lib.hid hb
          clear hlay hb
          by_cases heq : evGB id ver tm ty node m (strOfNums nb) bs (dl.map Df.v) = xs
          · have HEQ := Lib.hid heq
            clear heq
            go_wp2_with (first
              | (go_at_call 22; go_must (refine hlay2.mono ?_; rintro e w11 ⟨⟨A11, c11, rfl, ho11⟩, hc11⟩; have hbE11 := bx.keep hc11 (fun h => h); have bz11 := bz.keep hc11 (fun h => h)))
              | (go_at_call 37; go_must (refine (equalB_short A11 B (evGB id ver tm ty node m (strOfNums nb) bs (dl.map Df.v)).length n c11 d _ xs w11 (Rd.of_own ho11) ((HB.out.keep hcw (fun _ _ h => h)).keep hc11 (fun _ _ h => h)) rfl HN.out (by omega)).mono ?_; rintro e w12 ⟨rfl, hc12⟩; rw [decide_eq_true HEQ.out]; have hbE12 := hbE11.keep hc12 (fun h => h); have bz12 := bz11.keep hc12 (fun h => h); have s0 := hbE12.cell 0 rfl; have s1 := hbE12.cell 1 rfl; have s2 := hbE12.cell 2 rfl; have s3 := hbE12.cell 3 rfl; have s4 := hbE12.cell 4 rfl; have s5 := hbE12.cell 5 rfl; have s6 := hbE12.cell 6 rfl; have s7 := hbE12.cell 7 rfl; have s8 := hbE12.cell 8 rfl; have t0 := bz12.cell 0 rfl; have t1 := bz12.cell 1 rfl; have t2 := bz12.cell 2 rfl; have t3 := bz12.cell 3 rfl; have t4 := bz12.cell 4 rfl; have t5 := bz12.cell 5 rfl; have t6 := bz12.cell 6 rfl; have t7 := bz12.cell 7 rfl; have t8 := bz12.cell 8 rfl; have z0 := bz12.fz 0; have z1 := bz12.fz 1; have z2 := bz12.fz 2; have z3 := bz12.fz 3; have z4 := bz12.fz 4; have z5 := bz12.fz 5; have z6 := bz12.fz 6; have z7 := bz12.fz 7; have z8 := bz12.fz 8)))
            (try simp only [Exit.inBlock, Exit.then])
            refine bodyPost_ret (results_cell_row_tmp rfl _ _ w.heap.size _ _ _ _ rfl (BoxAt.set9 bz12 _ _ _ _ _ _ _ _ _) Tryz.underlying32 rfl evSize) rfl ?_
            have hcS := chg_set9 w12 w.heap.size (.int .i64 id) (.int .i64 ver) (.int .i64 tm) (.int .i64 ty) (.int .i64 node) (.int .i64 m) (.string (strOfNums nb)) (.slice Ad bs.length cd) (.slice D k dc)
            have hc1112 := hc11.trans hc12 (fun x hx => hx.elim)
            exact ⟨.inl ⟨HBB.out, HEQ.out, Ad, cd, D, dc, dl, by rw [HL.out]; rfl, (hRdw.keep hc1112 (fun _ _ h => h)).keep' hcS (fun hne x hx (e : x = w.heap.size) => (hAdg (fun e => hne (by rw [e]; rfl)) x hx).2.2.1 e), (hD.still hc1112).keep hcS (fun hne x hx (e : x = w.heap.size) => by have := hDl x hx; omega) (fun d1 hd1 hne x hx (e : x = w.heap.size) => by have := ((HDS.out d1 hd1).2.2 hne x hx).1; omega), rfl, ⟨hAdY, fun hne x hx => by have := hDl x hx; omega, fun d1 hd1 hne x hx => by have := ((HDS.out d1 hd1).2.2 hne x hx).1; omega⟩⟩, (hcw.trans hc1112 (fun x hx => hx.elim)).trans hcS (fun x hx => .inr (by rw [hx]; exact Nat.le_refl _))⟩
          · go_wp2_with (first
              | (go_at_call 22; go_must (refine hlay2.mono ?_; rintro e w11 ⟨⟨A11, c11, rfl, ho11⟩, hc11⟩; have hbE11 := bx.keep hc11 (fun h => h); have bz11 := bz.keep hc11 (fun h => h)))
              | (go_at_call 37; go_must (refine (equalB_short A11 B (evGB id ver tm ty node m (strOfNums nb) bs (dl.map Df.v)).length n c11 d _ xs w11 (Rd.of_own ho11) ((HB.out.keep hcw (fun _ _ h => h)).keep hc11 (fun _ _ h => h)) rfl HN.out (by omega)).mono ?_; rintro e w12 ⟨rfl, hc12⟩; rw [decide_eq_false heq]; have bz12 := bz11.keep hc12 (fun h => h); have t0 := bz12.cell 0 rfl; have t1 := bz12.cell 1 rfl; have t2 := bz12.cell 2 rfl; have t3 := bz12.cell 3 rfl; have t4 := bz12.cell 4 rfl; have t5 := bz12.cell 5 rfl; have t6 := bz12.cell 6 rfl; have t7 := bz12.cell 7 rfl; have t8 := bz12.cell 8 rfl; have z0 := bz12.fz 0; have z1 := bz12.fz 1; have z2 := bz12.fz 2; have z3 := bz12.fz 3; have z4 := bz12.fz 4; have z5 := bz12.fz 5; have z6 := bz12.fz 6; have z7 := bz12.fz 7; have z8 := bz12.fz 8)))
            (try simp only [Exit.inBlock, Exit.then])
            refine bodyPost_ret (results_cell_row_tmp rfl _ _ w.heap.size _ _ _ _ rfl (BoxAt.set9 bz12 _ _ _ _ _ _ _ _ _) Tryz.underlying32 rfl evSize) rfl ?_
            exact ⟨.inr ⟨fun h => heq h.2, rfl⟩, ((hcw.trans hc11 (fun x hx => hx.elim)).trans hc12 (fun x hx => hx.elim)).trans (chg_set9 _ w.heap.size _ _ _ _ _ _ _ _ _) (fun x hx => .inr (by rw [hx]; exact Nat.le_refl _))⟩
theorem ReadGaveY.gave {w : World} {xs : List Int} {v : EvV} {e : Ending} {w' : World} (h : ReadGaveY w xs v e w') : ReadGave w xs v e w' := by
  obtain ⟨h, hc⟩ := h
  refine ⟨?_, hc⟩
  rcases h with ⟨hr, hl, A', c', D, dc, dl, he, k1, k2, k3, _⟩ | h
  · exact .inl ⟨hr, hl, A', c', D, dc, dl, he, k1, k2, k3⟩
  · exact .inr h
theorem readG_any (B : Option Addr) (n d : Nat) (xs : List Int) (w : World) (h : Rd w B (xs.map (Value.int .u8))) (hn : xs.length = n) (hn2 : n ≤ 140737488355328) (hby : ∀ x ∈ xs, 0 ≤ x ∧ x ≤ 255) :
    Calls Tryz.prog 30 #[.slice B n d] w (ReadGave w xs (readV xs)) :=
  (readY_any B n d xs w h hn hn2 hby).mono fun e w' h => h.gave
end Go.Proofs.YtngfimjbgopgjaaGreatDoor
