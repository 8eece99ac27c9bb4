/- Contract of cutoverref8.Read at any bytes (gen_rfread.py). -/
import Derived.Test.YtngfimjbgopgjaaGreatDoorRfLay
import Derived.Test.YtngfimjbgopgjaaGreatDoorEvReadG
import Derived.Test.YtngfimjbgopgjaaGreatDoorOctBack
import Derived.Test.YtngfimjbgopgjaaGreatDoorEvConAll
import Derived.Test.YtngfimjbgopgjaaGreatDoorRfSameE
import Derived.Test.YtngfimjbgopgjaaGreatDoorEvSame
import Derived.Test.YtngfimjbgopgjaaGreatDoorOne
import Derived.Deep.CutBlock
import Derived.Deep.DeepCutAuto
namespace Go.Proofs.YtngfimjbgopgjaaGreatDoor
open Go.RowKit
set_option linter.unusedVariables false

/-- A reader beside a box. -/
structure RdSt (T : TypeId) (V w' : World) (p g : Nat) (B : Option Addr) (l : Bool) (r : List Int) (row : Array Value) : Prop where
  rd : ∃ A c, RAt 67 w' p A c l r ∧ (blk A = blk B ∨ blk A = none)
  bx : BoxAt w' g T row
  ch : Chg (fun x => x = p ∨ x = g) V w'
theorem RdSt.turn {T : TypeId} {V w' w'' : World} {p g : Nat} {B : Option Addr} {l : Bool} {r : List Int} {row : Array Value} {st : Bool × List Int} (h : RdSt T V w' p g B l r row) (hg : g ≠ p) {A : Option Addr} (hA : blk A = blk B ∨ blk A = none) (ht : RTurned 67 w' w'' p A st) : RdSt T V w'' p g B st.1 st.2 row := by
  obtain ⟨A', c', h1, h2, h3⟩ := ht
  refine ⟨⟨A', c', h1, ?_⟩, h.bx.keep h3 hg, h.ch.trans h3 (fun x hx => .inl (.inl hx))⟩
  rcases h2 with h2 | h2
  · rw [h2]; exact hA
  · exact .inr h2
theorem RdSt.put {T : TypeId} {V w' : World} {p g : Nat} {B : Option Addr} {l : Bool} {r : List Int} {row : Array Value} (h : RdSt T V w' p g B l r row) (hg : g ≠ p) (hB : ∀ x, blk B = some x → x ≠ g) (k : Nat) (u : Value) : RdSt T V (w'.setCell ⟨g, k, none⟩ u) p g B l r (row.setIfInBounds k u) := by
  obtain ⟨A, c, h1, h2⟩ := h.rd
  have hS := chg_put w' g k u
  refine ⟨⟨A, c, h1.keep hS (fun e => hg e.symm) (fun x hx e => ?_), h2⟩, h.bx.set k u, h.ch.trans hS (fun x hx => .inl (.inr hx))⟩
  rcases h2 with h2 | h2
  · exact hB x (by rw [← h2]; exact hx) e
  · rw [h2] at hx; cases hx

/-- What is left behind an event's reading. -/
def readSt (xs : List Int) : Bool × List Int :=
  let a := numR false xs 2
  let b := numR a.2.1 a.2.2 8
  let c := numR b.2.1 b.2.2 8
  let d := numR c.2.1 c.2.2 1
  let e := numR d.2.1 d.2.2 1
  let f := numR e.2.1 e.2.2 8
  let g := shortR f.2.1 f.2.2
  let h := shortR g.2.1 g.2.2
  let i := numR h.2.1 h.2.2 1
  (defsR i.1.toNat i.2).2
theorem readSt_lay {v : EvV} (h : v.right = true) (hb : ∀ z ∈ v.nb, 0 ≤ z ∧ z ≤ 255) : readSt v.lay = (false, []) := by
  obtain ⟨a1, a2, a3, a4, a5, a6, a7, a8, a9, a10⟩ := right_parts h
  obtain ⟨id, ver, tm, ty, node, m, nb, bs, dv⟩ := v
  simp only at a1 a2 a3 a4 a5 a6 a7 a8 a9 a10 hb
  have hl := defsR_lay dv [] a10
  rw [List.append_nil] at hl
  obtain ⟨y9, e9⟩ : ∃ y, y = be (IntKind.u64.wrap (dv.length : Int)) 1 ++ defsBy dv := ⟨_, rfl⟩
  obtain ⟨y8, e8⟩ : ∃ y, y = shortB bs ++ y9 := ⟨_, rfl⟩
  obtain ⟨y7, e7⟩ : ∃ y, y = shortB nb ++ y8 := ⟨_, rfl⟩
  obtain ⟨y6, e6⟩ : ∃ y, y = be (IntKind.u64.wrap m) 8 ++ y7 := ⟨_, rfl⟩
  obtain ⟨y5, e5⟩ : ∃ y, y = be (IntKind.u64.wrap node) 1 ++ y6 := ⟨_, rfl⟩
  obtain ⟨y4, e4⟩ : ∃ y, y = be (IntKind.u64.wrap ty) 1 ++ y5 := ⟨_, rfl⟩
  obtain ⟨y3, e3⟩ : ∃ y, y = be (IntKind.u64.wrap tm) 8 ++ y4 := ⟨_, rfl⟩
  obtain ⟨y2, e2⟩ : ∃ y, y = be (IntKind.u64.wrap ver) 8 ++ y3 := ⟨_, rfl⟩
  obtain ⟨y1, e1⟩ : ∃ y, y = be (IntKind.u64.wrap id) 2 ++ y2 := ⟨_, rfl⟩
  have hlay : EvV.lay ⟨id, ver, tm, ty, node, m, nb, bs, dv⟩ = y1 := by
    rw [e1, e2, e3, e4, e5, e6, e7, e8, e9]
    simp only [EvV.lay, evGB, strB_back nb hb, List.nil_append, List.append_assoc]
  rw [hlay]
  have h1 : numR false y1 2 = (id, false, y2) := by rw [e1]; exact rd_num2 id (by omega) (by omega) y2
  have h2 : numR false y2 8 = (ver, false, y3) := by rw [e2]; exact rd_num8 ver (by omega) (by omega) y3
  have h3 : numR false y3 8 = (tm, false, y4) := by rw [e3]; exact rd_num8 tm (by omega) (by omega) y4
  have h4 : numR false y4 1 = (ty, false, y5) := by rw [e4]; exact rd_num1 ty (by omega) (by omega) y5
  have h5 : numR false y5 1 = (node, false, y6) := by rw [e5]; exact rd_num1 node (by omega) (by omega) y6
  have h6 : numR false y6 8 = (m, false, y7) := by rw [e6]; exact rd_num8 m (by omega) (by omega) y7
  have h7 : shortR false y7 = (nb, false, y8) := by rw [e7]; exact shortR_app nb y8 (by omega)
  have h8 : shortR false y8 = (bs, false, y9) := by rw [e8]; exact shortR_app bs y9 (by omega)
  have h9 : numR false y9 1 = ((dv.length : Int), false, defsBy dv) := by rw [e9]; exact rd_num1 _ (by omega) (by omega) _
  simp only [readSt, h1, h2, h3, h4, h5, h6, h7, h8, h9, Int.toNat_natCast, hl]

set_option maxHeartbeats 8000000 in
set_option maxRecDepth 20000 in
theorem rreadY_any (B : Option Addr) (n d : Nat) (xs : List Int) (w : World) (h : Rd w B (xs.map (Value.int .u8))) (hn : xs.length = n) (hnd : n ≤ d) (hBo : ∀ x, blk B = some x → x < w.heap.size) (hn2 : n ≤ 140737488355328) (hby : ∀ x ∈ xs, 0 ≤ x ∧ x ≤ 255) :
    Calls Tryz.prog 40 #[.slice B n d] w (ReadGaveY w xs (readV xs)) := by
  obtain ⟨i0, hi, hz0, hz1, hz2⟩ := info_parts defInfo
  obtain ⟨i1, ki, kz0, kz1, kz2⟩ := info_parts intInfo
  obtain ⟨⟨id, l1, r1⟩, x1⟩ : ∃ r, numR false xs 2 = r := ⟨_, rfl⟩
  obtain ⟨⟨ver, l2, r2⟩, x2⟩ : ∃ r, numR l1 r1 8 = r := ⟨_, rfl⟩
  obtain ⟨⟨tm, l3, r3⟩, x3⟩ : ∃ r, numR l2 r2 8 = r := ⟨_, rfl⟩
  obtain ⟨⟨ty, l4, r4⟩, x4⟩ : ∃ r, numR l3 r3 1 = r := ⟨_, rfl⟩
  obtain ⟨⟨node, l5, r5⟩, x5⟩ : ∃ r, numR l4 r4 1 = r := ⟨_, rfl⟩
  obtain ⟨⟨m, l6, r6⟩, x6⟩ : ∃ r, numR l5 r5 8 = r := ⟨_, rfl⟩
  obtain ⟨⟨nb, l7, r7⟩, x7⟩ : ∃ r, shortR l6 r6 = r := ⟨_, rfl⟩
  obtain ⟨⟨bs, l8, r8⟩, x8⟩ : ∃ r, shortR l7 r7 = r := ⟨_, rfl⟩
  obtain ⟨⟨nn, l9, r9⟩, x9⟩ : ∃ r, numR l8 r8 1 = r := ⟨_, rfl⟩
  obtain ⟨⟨dv, st⟩, x10⟩ : ∃ r, defsR nn.toNat (l9, r9) = r := ⟨_, rfl⟩
  have hv : readV xs = ⟨id, ver, tm, ty, node, m, nb, bs, dv⟩ := by simp only [readV, x1, x2, x3, x4, x5, x6, x7, x8, x9, x10]
  have sub1 : r1.length ≤ xs.length ∧ ∀ x ∈ r1, x ∈ xs := by have h1 := numR_rest (lack := false) (xs := xs) (k := 2); rw [x1] at h1; exact h1
  have sub2 : r2.length ≤ xs.length ∧ ∀ x ∈ r2, x ∈ xs := by have h1 := numR_rest (lack := l1) (xs := r1) (k := 8); rw [x2] at h1; exact ⟨Nat.le_trans h1.1 sub1.1, fun x hx => sub1.2 x (h1.2 x hx)⟩
  have sub3 : r3.length ≤ xs.length ∧ ∀ x ∈ r3, x ∈ xs := by have h1 := numR_rest (lack := l2) (xs := r2) (k := 8); rw [x3] at h1; exact ⟨Nat.le_trans h1.1 sub2.1, fun x hx => sub2.2 x (h1.2 x hx)⟩
  have sub4 : r4.length ≤ xs.length ∧ ∀ x ∈ r4, x ∈ xs := by have h1 := numR_rest (lack := l3) (xs := r3) (k := 1); rw [x4] at h1; exact ⟨Nat.le_trans h1.1 sub3.1, fun x hx => sub3.2 x (h1.2 x hx)⟩
  have sub5 : r5.length ≤ xs.length ∧ ∀ x ∈ r5, x ∈ xs := by have h1 := numR_rest (lack := l4) (xs := r4) (k := 1); rw [x5] at h1; exact ⟨Nat.le_trans h1.1 sub4.1, fun x hx => sub4.2 x (h1.2 x hx)⟩
  have sub6 : r6.length ≤ xs.length ∧ ∀ x ∈ r6, x ∈ xs := by have h1 := numR_rest (lack := l5) (xs := r5) (k := 8); rw [x6] at h1; exact ⟨Nat.le_trans h1.1 sub5.1, fun x hx => sub5.2 x (h1.2 x hx)⟩
  have sub7 : nb.length ≤ xs.length := by have h1 := shortR_le (lack := l6) (xs := r6); rw [x7] at h1; exact Nat.le_trans h1 sub6.1
  have hnbb : ∀ z ∈ nb, 0 ≤ z ∧ z ≤ 255 := by have h1 := shortR_bytes (lack := l6) (xs := r6) (fun x hx => hby x (sub6.2 x hx)); rw [x7] at h1; exact h1
  have hlack : EvV.right (readV xs) = true → EvV.lay (readV xs) = xs → st.1 = false := fun g1 g2 => by
    have h1 : readSt xs = st := by simp only [readSt, x1, x2, x3, x4, x5, x6, x7, x8, x9, x10]
    have h2 := readSt_lay g1 (by rw [hv]; exact hnbb)
    rw [g2, h1] at h2
    rw [h2]
  clear sub1 sub2 sub3 sub4 sub5 sub6
  have HNBB := Lib.hid hnbb
  rw [hv] at hlack ⊢
  clear hv
  have X1 := Lib.hid x1
  have X2 := Lib.hid x2
  have X3 := Lib.hid x3
  have X4 := Lib.hid x4
  have X5 := Lib.hid x5
  have X6 := Lib.hid x6
  have X7 := Lib.hid x7
  have X8 := Lib.hid x8
  have X9 := Lib.hid x9
  have X10 := Lib.hid x10
  have HLK := Lib.hid hlack
  clear x1 x2 x3 x4 x5 x6 x7 x8 x9 x10 hlack
  have HB := Lib.hid h
  have HN := Lib.hid hn
  have HBO := Lib.hid hBo
  obtain ⟨w1, hw1⟩ : ∃ w1, w1 = (w.alloc (.cells #[.int .i64 0, .int .i64 0, .int .i64 0, .int .i64 0, .int .i64 0, .int .i64 0, .string { data := #[] }, .slice none 0 0, .slice none 0 0] 32)).alloc (.cells #[.slice B n d, .bool false] 67) := ⟨_, rfl⟩
  obtain ⟨p, hp⟩ : ∃ p, p = w.heap.size + 1 := ⟨_, rfl⟩
  have bz : BoxAt w1 w.heap.size 32 #[.int .i64 0, .int .i64 0, .int .i64 0, .int .i64 0, .int .i64 0, .int .i64 0, .string { data := #[] }, .slice none 0 0, .slice none 0 0] := by rw [hw1]; exact (BoxAt.new w _ _).keep ((Chg.refl (fun _ => False) _).alloc _) (fun h => h)
  have hc1 : Chg (fun _ => False) w w1 := by rw [hw1]; exact ((Chg.refl _ _).alloc _).alloc _
  have hR1 : RAt 67 w1 p B d false xs := by
    refine ⟨?_, h.keep hc1 (fun _ _ h => h), by omega, fun x hx e => by have := hBo x hx; have : x = p := e; omega, by omega, hby, fun x hx => by have := hBo x hx; have := hc1.size; omega⟩
    rw [hw1, hp, hn]
    exact box2 w _ _ _
  clear h hn hBo
  go_enter Tryz.func40, Tryz.ntmps40
  go_upto_region 2 with fail
  rw [← hw1, ← hp]
  have hpw : w.heap.size < p := by omega
  clear hw1 hp
  go_upto_region 3 with (go_at_call 38; go_must (refine (rgu16_any p B d false xs w1 hR1).mono ?_; rw [X1.out]; rintro e w2 ⟨rfl, ht⟩))
  obtain ⟨A2, c2, hr2, hA2, hd2⟩ := ht
  obtain ⟨V, hV⟩ : ∃ V, V = w2.alloc (.cells #[.int .i64 id, .int .i64 0, .int .i64 0, .int .i64 0, .int .i64 0, .int .i64 0, .string { data := #[] }, .slice none 0 0, .slice none 0 0] 32) := ⟨_, rfl⟩
  obtain ⟨ge, hge⟩ : ∃ ge, ge = w2.heap.size := ⟨_, rfl⟩
  have hpg : p < ge := by rw [hge]; exact hr2.lt
  have hgep : ge ≠ p := by omega
  have hBge : ∀ x, blk B = some x → x ≠ ge := fun x hx e => by have h1 := HBO.out x hx; have h2 := hd2.size; have h3 := hc1.size; omega
  have hS : RdSt 32 V V p ge B l1 r1 #[.int .i64 id, .int .i64 0, .int .i64 0, .int .i64 0, .int .i64 0, .int .i64 0, .string { data := #[] }, .slice none 0 0, .slice none 0 0] := by
    refine ⟨⟨A2, c2, ?_, hA2⟩, by rw [hV, hge]; exact BoxAt.new w2 _ _, Chg.refl _ _⟩
    rw [hV]
    exact hr2.keep ((Chg.refl (fun _ => False) _).alloc _) (fun h => h) (fun _ _ h => h)
  have hcV : Chg (fun _ => False) w V := by rw [hV]; exact (hc1.trans hd2 (fun x hx => .inr (by rw [hx]; omega))).alloc _
  have bzV : BoxAt V w.heap.size 32 #[.int .i64 0, .int .i64 0, .int .i64 0, .int .i64 0, .int .i64 0, .int .i64 0, .string { data := #[] }, .slice none 0 0, .slice none 0 0] := by rw [hV]; exact (bz.keep hd2 (fun (e : w.heap.size = p) => by omega)).keep ((Chg.refl (fun _ => False) _).alloc _) (fun h => h)
  have hgV : ge < V.heap.size := hS.bx.lt
  rw [← hV, ← hge]
  clear hV hge hr2 hA2 hd2 bz hc1 hR1 A2 c2
  obtain ⟨A2, c2, hr2, hA2⟩ := hS.rd
  go_upto_region 4 with (go_at_call 73; go_must (refine (rgu64_any p A2 c2 l1 r1 _ hr2).mono ?_; rw [X2.out]; rintro e w3 ⟨rfl, ht⟩; have hS2 := hS.turn hgep hA2 ht; have y1 := hS2.bx.cell 1 rfl; have z1 := hS2.bx.fz 1))
  have hS3 : RdSt 32 V _ p ge B l2 r2 #[.int .i64 id, .int .i64 ver, .int .i64 0, .int .i64 0, .int .i64 0, .int .i64 0, .string { data := #[] }, .slice none 0 0, .slice none 0 0] := hS2.put hgep hBge 1 (.int .i64 ver)
  clear hS hS2 y1 z1 ht hr2 hA2
  have hS := hS3
  clear hS3
  obtain ⟨A3, c3, hr3, hA3⟩ := hS.rd
  go_upto_region 5 with (go_at_call 73; go_must (refine (rgu64_any p A3 c3 l2 r2 _ hr3).mono ?_; rw [X3.out]; rintro e w4 ⟨rfl, ht⟩; have hS2 := hS.turn hgep hA3 ht; have y1 := hS2.bx.cell 2 rfl; have z1 := hS2.bx.fz 2))
  have hS3 : RdSt 32 V _ p ge B l3 r3 #[.int .i64 id, .int .i64 ver, .int .i64 tm, .int .i64 0, .int .i64 0, .int .i64 0, .string { data := #[] }, .slice none 0 0, .slice none 0 0] := hS2.put hgep hBge 2 (.int .i64 tm)
  clear hS hS2 y1 z1 ht hr3 hA3
  have hS := hS3
  clear hS3
  obtain ⟨A4, c4, hr4, hA4⟩ := hS.rd
  go_upto_region 6 with (go_at_call 74; go_must (refine (rgu8_any p A4 c4 l3 r3 _ hr4).mono ?_; rw [X4.out]; rintro e w5 ⟨rfl, ht⟩; have hS2 := hS.turn hgep hA4 ht; have y1 := hS2.bx.cell 3 rfl; have z1 := hS2.bx.fz 3))
  have hS3 : RdSt 32 V _ p ge B l4 r4 #[.int .i64 id, .int .i64 ver, .int .i64 tm, .int .i64 ty, .int .i64 0, .int .i64 0, .string { data := #[] }, .slice none 0 0, .slice none 0 0] := hS2.put hgep hBge 3 (.int .i64 ty)
  clear hS hS2 y1 z1 ht hr4 hA4
  have hS := hS3
  clear hS3
  obtain ⟨A5, c5, hr5, hA5⟩ := hS.rd
  go_upto_region 7 with (go_at_call 74; go_must (refine (rgu8_any p A5 c5 l4 r4 _ hr5).mono ?_; rw [X5.out]; rintro e w6 ⟨rfl, ht⟩; have hS2 := hS.turn hgep hA5 ht; have y1 := hS2.bx.cell 4 rfl; have z1 := hS2.bx.fz 4))
  have hS3 : RdSt 32 V _ p ge B l5 r5 #[.int .i64 id, .int .i64 ver, .int .i64 tm, .int .i64 ty, .int .i64 node, .int .i64 0, .string { data := #[] }, .slice none 0 0, .slice none 0 0] := hS2.put hgep hBge 4 (.int .i64 node)
  clear hS hS2 y1 z1 ht hr5 hA5
  have hS := hS3
  clear hS3
  obtain ⟨A6, c6, hr6, hA6⟩ := hS.rd
  go_upto_region 8 with (go_at_call 73; go_must (refine (rgu64_any p A6 c6 l5 r5 _ hr6).mono ?_; rw [X6.out]; rintro e w7 ⟨rfl, ht⟩; have hS2 := hS.turn hgep hA6 ht; have y1 := hS2.bx.cell 5 rfl; have z1 := hS2.bx.fz 5))
  have hS3 : RdSt 32 V _ p ge B l6 r6 #[.int .i64 id, .int .i64 ver, .int .i64 tm, .int .i64 ty, .int .i64 node, .int .i64 m, .string { data := #[] }, .slice none 0 0, .slice none 0 0] := hS2.put hgep hBge 5 (.int .i64 m)
  clear hS hS2 y1 z1 ht hr6 hA6
  have hS := hS3
  clear hS3
  obtain ⟨A7, c7, hr7, hA7⟩ := hS.rd
  go_upto_region 9 with (go_at_call 75; go_must (refine (rgtext_any p A7 c7 l6 r6 _ hr7).mono ?_; rw [X7.out]; rintro e w8 ⟨rfl, ht⟩; have hS2 := hS.turn hgep hA7 ht; have y1 := hS2.bx.cell 6 rfl; have z1 := hS2.bx.fz 6))
  have hS3 : RdSt 32 V _ p ge B l7 r7 #[.int .i64 id, .int .i64 ver, .int .i64 tm, .int .i64 ty, .int .i64 node, .int .i64 m, .string (strOfNums nb), .slice none 0 0, .slice none 0 0] := hS2.put hgep hBge 6 (.string (strOfNums nb))
  clear hS hS2 y1 z1 ht hr7 hA7
  have hS := hS3
  clear hS3
  obtain ⟨A8, c8, hr8, hA8⟩ := hS.rd
  have hge8 := hS.bx.lt
  have hr8b := hr8.byt
  have hr8l := hr8.len
  go_upto_region 10 with (go_at_call 39; go_must (refine (rgshort_any p A8 c8 l7 r7 _ hr8).mono ?_; rw [X8.out]; rintro e w9 ⟨Ad, cd, rfl, hcd, hBd, ht⟩; have hS2 := hS.turn hgep hA8 ht; have y1 := hS2.bx.cell 7 rfl; have z1 := hS2.bx.fz 7))
  have hS3 : RdSt 32 V _ p ge B l8 r8 #[.int .i64 id, .int .i64 ver, .int .i64 tm, .int .i64 ty, .int .i64 node, .int .i64 m, .string (strOfNums nb), .slice Ad bs.length cd, .slice none 0 0] := hS2.put hgep hBge 7 (.slice Ad bs.length cd)
  have hAd : ∀ x, blk Ad = some x → ge < x := fun x hx => Nat.lt_of_lt_of_le hge8 (hBd.2 x hx)
  have hRd : Rd (w9.setCell ⟨ge, 7, none⟩ (.slice Ad bs.length cd)) Ad (bs.map (Value.int .u8)) := hBd.1.keep (chg_put _ ge 7 _) (fun x hx (e : x = ge) => by have := hAd x hx; omega)
  clear hS hS2 y1 z1 ht hr8 hA8 hBd hcd hge8
  have hS := hS3
  clear hS3
  have hbsb : ∀ z ∈ bs, 0 ≤ z ∧ z ≤ 255 := by have h1 := shortR_bytes (lack := l7) (xs := r7) hr8b; rw [X8.out] at h1; exact h1
  have hbsl : bs.length ≤ 140737488355328 := by have h1 := shortR_le (lack := l7) (xs := r7); rw [X8.out] at h1; exact Nat.le_trans h1 hr8l
  have HBSB := Lib.hid hbsb
  clear hbsb hr8b hr8l
  obtain ⟨A9, c9, hr9, hA9⟩ := hS.rd
  go_upto_block 0 with (go_at_call 74; go_must (refine (rgu8_any p A9 c9 l8 r8 _ hr9).mono ?_; rw [X9.out]; rintro e w10 ⟨rfl, ht⟩; have hS2 := hS.turn hgep hA9 ht; have hRd2 := hRd.keep ht.choose_spec.choose_spec.2.2 (fun x hx (e : x = p) => by have := hAd x hx; omega)))
  have hnb := numR1_bd (lack := l8) hr9.byt
  rw [X9.out] at hnb
  clear hS hRd ht hr9 hA9
  obtain ⟨N, hN⟩ : ∃ N : Nat, nn = (N : Int) := ⟨nn.toNat, by have := hnb.1; simp only at this; omega⟩
  have hN255 : N ≤ 255 := by have := hnb.2; simp only at this; omega
  subst hN
  clear hnb
  have hS : RdSt 32 V w10 p ge B l9 r9 #[.int .i64 id, .int .i64 ver, .int .i64 tm, .int .i64 ty, .int .i64 node, .int .i64 m, .string (strOfNums nb), .slice Ad bs.length cd, .slice none 0 0] := hS2
  clear hS2
  obtain ⟨base, hbase⟩ : ∃ base, base = w10.heap.size := ⟨_, rfl⟩
  have HBS := Lib.hid hbase
  have hgb : ge < base := by rw [hbase]; exact hS.bx.lt
  have hpb : p < base := by omega
  have hBb : ∀ x, blk B = some x → x < base := fun x hx => by have := HBO.out x hx; omega
  have hBg2 : ∀ x, blk B = some x → x < w.heap.size := HBO.out
  clear hbase
  go_cut [6] from 7 to 82 (fun _ w' => ∃ (dl : List Df) (D : Option Addr) (dc : Nat) (ys : List Int) (Ar : Option Addr) (cr : Nat), dl.length ≤ 255 ∧ BoxAt w' ge 32 #[.int .i64 id, .int .i64 ver, .int .i64 tm, .int .i64 ty, .int .i64 node, .int .i64 m, .string (strOfNums nb), .slice Ad bs.length cd, .slice D dl.length dc] ∧ RdDf w' D dl ∧ (∀ d ∈ dl, d.ns.length ≤ 255 ∧ ∀ x, In d.A x → base ≤ x) ∧ (∀ x, In D x → base ≤ x) ∧ RAt 67 w' p Ar cr st.1 ys ∧ dv = dl.map Df.v ∧ Chg (fun x => x = p ∨ x = ge) w10 w')
  case first =>
    go_wp2_with fail
    go_loopw [6] (fun i w' => ∃ (k : Nat) (dl : List Df) (lk : Bool) (ys : List Int) (D : Option Addr) (dc : Nat) (Ar : Option Addr) (cr : Nat), k ≤ N ∧ i = .int .i64 ((N : Int) - k) ∧ dl.length = k ∧ BoxAt w' ge 32 #[.int .i64 id, .int .i64 ver, .int .i64 tm, .int .i64 ty, .int .i64 node, .int .i64 m, .string (strOfNums nb), .slice Ad bs.length cd, .slice D k dc] ∧ w'.ownsRow base 85 3 (.slice D k dc) k (dfC dl) ∧ (∀ d ∈ dl, Rd w' d.A (d.ns.map (Value.int .i64)) ∧ d.ns.length ≤ 255 ∧ (∀ x, In d.A x → base ≤ x ∧ x < w'.heap.size ∧ ¬ In D x)) ∧ RAt 67 w' p Ar cr lk ys ∧ (blk Ar = blk B ∨ blk Ar = none) ∧ dv = dl.map Df.v ++ (defsR (N - k) (lk, ys)).1 ∧ st = (defsR (N - k) (lk, ys)).2 ∧ Chg (fun x => x = p ∨ x = ge) w10 w') (fun i _ => (intOf i).toNat)
    case atStart =>
      obtain ⟨A, c, h1, h2⟩ := hS.rd
      exact ⟨0, [], l9, r9, none, 0, A, c, by omega, by simp, rfl, hS.bx, World.ownsRow_nil _ _ _ _, (fun d hd => by cases hd), h1, h2, by rw [Nat.sub_zero, List.map_nil, List.nil_append]; exact (congrArg Prod.fst X10.out).symm.trans (by rw [Int.toNat_natCast]), by rw [Nat.sub_zero]; exact (congrArg Prod.snd X10.out).symm.trans (by rw [Int.toNat_natCast]), Chg.refl _ _⟩
    case round =>
      clear hS
      obtain ⟨k, dl, lk, ys, D, dc, Ar, cr, hk, rfl, hl, bx, ho, hds, hr, hAr, hdv, hst, hc⟩ := hrel
      have HL := Lib.hid hl
      have HDS := Lib.hid hds
      have HDV := Lib.hid hdv
      have HST := Lib.hid hst
      clear hl hds hdv hst
      have hsw := hc.size
      have hlc := hr.cell1
      by_cases hgo : k < N ∧ lk = false
      · obtain ⟨hkn, rfl⟩ := hgo
        have n1 : (0 : Int) < (N : Int) - (k : Int) := by omega
        obtain ⟨⟨tr, m1, y1⟩, u1⟩ : ∃ r, numR false ys 1 = r := ⟨_, rfl⟩
        obtain ⟨⟨le, m2, y2⟩, u2⟩ : ∃ r, numR m1 y1 8 = r := ⟨_, rfl⟩
        obtain ⟨⟨cn, m3, y3⟩, u3⟩ : ∃ r, numR m2 y2 1 = r := ⟨_, rfl⟩
        obtain ⟨⟨fin, st3⟩, u4⟩ : ∃ r, needsR cn.toNat (m3, y3) = r := ⟨_, rfl⟩
        have hdef : defR (false, ys) = ((fin, tr, le), st3) := by simp only [defR, u1, u2, u3, u4]
        have hst : defsR (N - k) (false, ys) = ((fin, tr, le) :: (defsR (N - (k + 1)) st3).1, (defsR (N - (k + 1)) st3).2) := by
          rw [show N - k = (N - (k + 1)) + 1 by omega]
          simp only [defsR, hdef]
          rfl
        have hdv := HDV.out
        have hsv := HST.out
        rw [hst] at hdv hsv
        have HDV2 := Lib.hid hdv
        have HST2 := Lib.hid hsv
        have hnl := defR_len (st := (false, ys)) hr.byt
        rw [hdef] at hnl
        have Y1 := Lib.hid u1
        have Y2 := Lib.hid u2
        have Y3 := Lib.hid u3
        have Y4 := Lib.hid u4
        clear hdef hst hdv hsv u1 u2 u3 u4 HDV HST
        go_upto_region 14 with (go_at_call 74; go_must (refine (rgu8_any p Ar cr false ys _ hr).mono ?_; rw [Y1.out]; rintro e wA ⟨rfl, ht⟩))
        obtain ⟨A2, c2, hr2, hA2, hd2⟩ := ht
        have hA2' : blk A2 = blk B ∨ blk A2 = none := by rcases hA2 with h | h; (rw [h]; exact hAr); exact .inr h
        obtain ⟨V2, hV2⟩ : ∃ V2, V2 = wA.alloc (.cells #[.slice none 0 0, .int .i64 tr, .int .i64 0] 85) := ⟨_, rfl⟩
        obtain ⟨gd, hgd⟩ : ∃ gd, gd = wA.heap.size := ⟨_, rfl⟩
        have hgdw : wr.heap.size ≤ gd := by rw [hgd]; exact hd2.size
        have hbw := HBS.out
        have hgdp : gd ≠ p := by omega
        have hBgd : ∀ x, blk B = some x → x ≠ gd := fun x hx e => by have := hBb x hx; omega
        have hT : RdSt 85 V2 V2 p gd B m1 y1 #[.slice none 0 0, .int .i64 tr, .int .i64 0] := by
          refine ⟨⟨A2, c2, ?_, hA2'⟩, by rw [hV2, hgd]; exact BoxAt.new wA _ _, Chg.refl _ _⟩
          rw [hV2]
          exact hr2.keep ((Chg.refl (fun _ => False) _).alloc _) (fun h => h) (fun _ _ h => h)
        have hcV2 : Chg (· = p) wr V2 := by rw [hV2]; exact hd2.alloc _
        rw [← hV2, ← hgd]
        clear hV2 hgd hr2 hA2 hA2' hd2 A2 c2 hr hlc
        obtain ⟨A3, c3, hr3, hA3⟩ := hT.rd
        go_upto_region 15 with (go_at_call 73; go_must (refine (rgu64_any p A3 c3 m1 y1 _ hr3).mono ?_; rw [Y2.out]; rintro e wB ⟨rfl, ht⟩; have hS2 := hT.turn hgdp hA3 ht; have y1 := hS2.bx.cell 2 rfl; have z1 := hS2.bx.fz 2))
        have hS3 : RdSt 85 V2 _ p gd B m2 y2 #[.slice none 0 0, .int .i64 tr, .int .i64 le] := hS2.put hgdp hBgd 2 (.int .i64 le)
        rename_i y1'
        clear hT hS2 z1 ht hr3 hA3
        have hT := hS3
        clear hS3
        obtain ⟨A4, c4, hr4, hA4⟩ := hT.rd
        go_upto_block 2 with (go_at_call 74; go_must (refine (rgu8_any p A4 c4 m2 y2 _ hr4).mono ?_; rw [Y3.out]; rintro e wC ⟨rfl, ht⟩; have hS2 := hT.turn hgdp hA4 ht))
        have hcb := numR1_bd (lack := m2) hr4.byt
        rw [Y3.out] at hcb
        have hT2 : RdSt 85 V2 wC p gd B m3 y3 #[.slice none 0 0, .int .i64 tr, .int .i64 le] := hS2
        clear hT hS2 ht hr4 hA4
        obtain ⟨M, hM⟩ : ∃ M : Nat, cn = (M : Int) := ⟨cn.toNat, by have := hcb.1; simp only at this; omega⟩
        have hM255 : M ≤ 255 := by have := hcb.2; simp only at this; omega
        subst hM
        clear hcb
        have hcC : Chg (· = p) wr wC := hcV2.trans hT2.ch (fun x hx => by rcases hx with hx | hx; (exact .inl hx); exact .inr (by omega))
        have hbase2 : wr.heap.size ≤ wC.heap.size := hcC.size
        obtain ⟨base2, hb2⟩ : ∃ base2, base2 = wC.heap.size := ⟨_, rfl⟩
        have HB2 := Lib.hid hb2
        have hgd2 : gd < base2 := by rw [hb2]; exact hT2.bx.lt
        clear hb2
        go_cut [8] from 40 to 82 (fun _ w' => ∃ (Bn : Option Addr) (cb : Nat) (Ar : Option Addr) (cr : Nat), BoxAt w' gd 85 #[.slice Bn fin.length cb, .int .i64 tr, .int .i64 le] ∧ w'.ownsRow base2 3 1 (.slice Bn fin.length cb) fin.length (fin.map (Value.int .i64)) ∧ RAt 67 w' p Ar cr st3.1 st3.2 ∧ (blk Ar = blk B ∨ blk Ar = none) ∧ Chg (fun x => x = p ∨ x = gd) wC w')
        case first =>
          go_wp2_with fail
          go_loopw [8] (fun i w' => ∃ (j : Nat) (l : List Int) (lk : Bool) (ys : List Int) (Bn : Option Addr) (cb : Nat) (Ar : Option Addr) (cr : Nat), j ≤ M ∧ i = .int .i64 ((M : Int) - j) ∧ l.length = j ∧ BoxAt w' gd 85 #[.slice Bn j cb, .int .i64 tr, .int .i64 le] ∧ w'.ownsRow base2 3 1 (.slice Bn j cb) j (l.map (Value.int .i64)) ∧ RAt 67 w' p Ar cr lk ys ∧ (blk Ar = blk B ∨ blk Ar = none) ∧ fin = l ++ (needsR (M - j) (lk, ys)).1 ∧ st3 = (needsR (M - j) (lk, ys)).2 ∧ Chg (fun x => x = p ∨ x = gd) wC w') (fun i _ => (intOf i).toNat)
          case atStart =>
            obtain ⟨A, c, h1, h2⟩ := hT2.rd
            exact ⟨0, [], m3, y3, none, 0, A, c, by omega, by simp, rfl, hT2.bx, World.ownsRow_nil _ _ _ _, h1, h2, by rw [Nat.sub_zero, List.nil_append]; exact (congrArg Prod.fst Y4.out).symm.trans (by rw [Int.toNat_natCast]), by rw [Nat.sub_zero]; exact (congrArg Prod.snd Y4.out).symm.trans (by rw [Int.toNat_natCast]), Chg.refl _ _⟩
          case round =>
            clear hT2
            obtain ⟨j, l, lk, ys5, Bn, cb, Ar5, cr5, hj, rfl, hl5, bx5, ho5, hr5, hAr5, hf1, hf2, hc5⟩ := hrel
            have HL5 := Lib.hid hl5
            clear hl5
            have hlc := hr5.cell1
            have q0 := bx5.cell 0 rfl
            have hb2w := HB2.out
            have hs5 := hc5.size
            by_cases hjm : j < M
            · have n2 : (0 : Int) < (M : Int) - (j : Int) := by omega
              cases lk
              · obtain ⟨⟨v, lk', ys'⟩, u1⟩ : ∃ r, numR false ys5 1 = r := ⟨_, rfl⟩
                have hst5 : needsR (M - j) (false, ys5) = (v :: (needsR (M - (j + 1)) (lk', ys')).1, (needsR (M - (j + 1)) (lk', ys')).2) := by
                  rw [show M - j = (M - (j + 1)) + 1 by omega]
                  simp only [needsR, u1]
                  rfl
                rw [hst5] at hf1 hf2
                have U1 := Lib.hid u1
                have HF1 := Lib.hid hf1
                have HF2 := Lib.hid hf2
                clear u1 hst5 hf1 hf2
                have hl1 : j + 1 ≤ maxLen := by simp only [maxLen]; omega
                have hl2 : (j + 1) * 8 ≤ 140737488355328 := by omega
                have hrd : RAt 67 wr.drew p Ar5 cr5 false ys5 := hr5.keep ((Chg.refl (fun _ => False) wr).drew) (fun h => h) (fun _ _ h => h)
                have hBl : ∀ x, In Bn x → base2 ≤ x ∧ x < wr.heap.size := fun x hx => own_lt ho5 hx
                have hgB : ¬ In Bn gd := fun h => by have := (hBl _ h).1; omega
                go_wp2_with fail
                go_region_law (first
                  | (refine step_append_rd _ rfl (.tmp 71) (.tmp 74) 81 rfl base2 3 i1 _ 1 8 Tryz.underlying81 ki kz0 kz1 kz2 rfl (by decide) Bn j cb (l.map (Value.int .i64)) (by simp [Act.eval]) (World.ownsRow.alloc ho6 _) (some ⟨w6.heap.size, 0, none⟩) 1 1 ([v].map (Value.int .i64)) (by simp [Act.eval]) rfl (by exact Rd.newRow w6 _ _ _ rfl) (ints_one _) hl1 hl2 hbase6 ?_; intro A7 c7 w7 hown7 hg7 hb7; have hc7 : Chg (In Bn) w6 w7 := ((Chg.refl _ w6).alloc _).trans hg7 (fun x hx => .inl hx); have y0 := hc7.cell_some (p := ⟨gd, 0, none⟩) d0 hgB; have y1 : w7.frozen? ⟨gd, 0, none⟩ = false := (by rw [hc7.frozen (p := ⟨gd, 0, none⟩) bx6.lt hgB]; exact bx6.fz 0))
                  | (go_simp; go_at_call 74; go_must (refine (rgu8_any p Ar5 cr5 false ys5 _ hrd).mono ?_; rw [U1.out]; rintro e w6 ⟨rfl, A6, c6, r6, hb6, hd6⟩; have hd6' : Chg (· = p) wr w6 := ((Chg.refl (· = p) wr).drew).trans hd6 (fun x hx => .inl hx); have bx6 := bx5.keep hd6' hgdp; have d0 := bx6.cell 0 rfl; have d1 : (w6.alloc (.cells #[.int .i64 v] 3)).cell? ⟨gd, 0, none⟩ = some (.slice Bn j cb) := ((Chg.refl (fun _ => False) w6).alloc _).cell_some d0 (fun h => h); have ho6 := hd6'.ownS ho5 (fun x hx (e : x = p) => by have := (hBl x hx).1; omega); have hbase6 : base2 ≤ (w6.alloc (.cells #[.int .i64 v] 3)).heap.size := (by have h1 := hd6'.size; simp; omega))))
                all_goals
                  go_wp2_with fail
                  have hsz6 := hd6'.size
                  have hcS := chg_put w7 gd 0 (.slice A7 (j + 1) c7)
                  have hA7 : ∀ x, In A7 x → In Bn x ∨ w6.heap.size ≤ x := fun x hx => by
                    rcases hb7 with e | e
                    · exact .inl (by show blk Bn = some x; rw [← e]; exact hx)
                    · have h1 : blk A7 = some x := hx
                      rw [e] at h1
                      injection h1 with h1
                      simp at h1
                      exact .inr (by omega)
                  have hA6 : blk A6 = blk B ∨ blk A6 = none := by rcases hb6 with h | h; (rw [h]; exact hAr5); exact .inr h
                  have hA6l : ∀ x, blk A6 = some x → x < base := fun x hx => by
                    rcases hA6 with h | h
                    · exact hBb x (by rw [← h]; exact hx)
                    · rw [h] at hx; cases hx
                  have bx8 := (bx6.keep hc7 hgB).set 0 (.slice A7 (j + 1) c7)
                  go_roundw
                  case rel => exact ⟨j + 1, l ++ [v], lk', ys', A7, c7, A6, c6, by omega, by go_num, by rw [List.length_append, HL5.out]; rfl, by simpa using bx8, by
                      rw [List.map_append]
                      exact hcS.ownS hown7 (fun x hx (e : x = gd) => by rcases hA7 x hx with h | h; (have := (hBl x h).1; omega); omega), (r6.keep hc7 (fun h => by have := (hBl _ h).1; omega) (fun x hx h => by have h1 := (hBl x h).1; have h2 := hA6l x hx; omega)).keep hcS (fun (e : p = gd) => hgdp e.symm) (fun x hx (e : x = gd) => by have h2 := hA6l x hx; omega), hA6, by rw [HF1.out, List.append_assoc]; rfl, HF2.out, ((hc5.trans hd6' (fun x hx => .inl (.inl hx))).trans hc7 (fun x hx => .inr (by have := (hBl x hx).1; omega))).trans hcS (fun x hx => .inl (.inr hx))⟩
                  case measure => simp [intOf]; omega
              · rw [needsR_lack] at hf1 hf2
                rw [List.append_nil] at hf1
                subst hf1 hf2
                have HOUT := Lib.hid (show ∃ (Bn' : Option Addr) (cb' : Nat) (Ar : Option Addr) (cr : Nat), BoxAt wr gd 85 #[.slice Bn' fin.length cb', .int .i64 tr, .int .i64 le] ∧ wr.ownsRow base2 3 1 (.slice Bn' fin.length cb') fin.length (fin.map (Value.int .i64)) ∧ RAt 67 wr p Ar cr true ys5 ∧ (blk Ar = blk B ∨ blk Ar = none) ∧ Chg (fun x => x = p ∨ x = gd) wC wr from ⟨Bn, cb, Ar5, cr5, by rw [HL5.out]; exact bx5, by rw [HL5.out]; exact ho5, hr5, hAr5, hc5⟩)
                go_wp2_with fail
                go_meet
                exact HOUT.out
            · have hje : M - j = 0 := by omega
              rw [hje] at hf1 hf2
              simp only [needsR, List.append_nil] at hf1 hf2
              subst hf1 hf2
              have n2 : ¬ (0 : Int) < (M : Int) - (j : Int) := by omega
              have HOUT := Lib.hid (show ∃ (Bn' : Option Addr) (cb' : Nat) (Ar : Option Addr) (cr : Nat), BoxAt wr gd 85 #[.slice Bn' fin.length cb', .int .i64 tr, .int .i64 le] ∧ wr.ownsRow base2 3 1 (.slice Bn' fin.length cb') fin.length (fin.map (Value.int .i64)) ∧ RAt 67 wr p Ar cr lk ys5 ∧ (blk Ar = blk B ∨ blk Ar = none) ∧ Chg (fun x => x = p ∨ x = gd) wC wr from ⟨Bn, cb, Ar5, cr5, by rw [HL5.out]; exact bx5, by rw [HL5.out]; exact ho5, hr5, hAr5, hc5⟩)
              go_wp2_with fail
              go_meet
              exact HOUT.out
        case rest =>
          obtain ⟨Bn, cb, A5, c5, bd, hoB, hr5, hA5, hcD⟩ := hcut
          have hcW : Chg (· = p) wr wc := hcC.trans hcD (fun x hx => by rcases hx with hx | hx; (exact .inl hx); exact .inr (by omega))
          have hsD := hcD.size
          have hb2w := HB2.out
          have bx5 := bx.keep hcW hgep
          have hDl : ∀ x, In D x → base ≤ x ∧ x < wr.heap.size := fun x hx => own_lt ho hx
          have hBl : ∀ x, In Bn x → base2 ≤ x ∧ x < wc.heap.size := fun x hx => own_lt hoB hx
          have ho5 := hcW.ownS ho (fun x hx (e : x = p) => by have := (hDl x hx).1; omega)
          have hgD : ¬ In D ge := fun h => by have := (hDl _ h).1; omega
          have q8 := bx5.cell 8 rfl
          have d0 := bd.cell 0 rfl
          have d1 := bd.cell 1 rfl
          have d2 := bd.cell 2 rfl
          have hl1 : k + 1 ≤ maxLen := by simp only [maxLen]; omega
          have hl2 : (k + 1) * 40 ≤ 140737488355328 := by omega
          have hba : base ≤ (wc.alloc (.cells #[.slice Bn fin.length cb, .int .i64 tr, .int .i64 le] 85)).heap.size := by simp; omega
          go_wp2_with (at_builtin; refine wpList_append_rd _ rfl (.tmp 78) (.tmp 80) 30 rfl base 85 i0 _ 3 40 Tryz.underlying30 hi hz0 hz1 hz2 rfl (by decide) D k dc (dfC dl) rfl (World.ownsRow.alloc ho5 _) (some ⟨wc.heap.size, 0, none⟩) 1 1 (dfC [⟨Bn, cb, fin, tr, le⟩]) rfl rfl (Rd.newRow wc _ _ _ rfl) (dfC_one _) hl1 hl2 hba ?_; intro A7 c7 w7 hown7 hg7 hb7; have hc7 : Chg (In D) wc w7 := ((Chg.refl _ wc).alloc _).trans hg7 (fun x hx => .inl hx); have y0 := hc7.cell_some (p := ⟨ge, 8, none⟩) q8 hgD; have y1 : w7.frozen? ⟨ge, 8, none⟩ = false := (by rw [hc7.frozen (p := ⟨ge, 8, none⟩) bx5.lt hgD]; exact bx5.fz 8))
          have hsz7 := hc7.size
          have hcS := chg_put w7 ge 8 (.slice A7 (k + 1) c7)
          have hszS := hcS.size
          have hA7 : ∀ x, In A7 x → In D x ∨ wc.heap.size ≤ x := fun x hx => by
            rcases hb7 with e | e
            · exact .inl (by show blk D = some x; rw [← e]; exact hx)
            · have h1 : blk A7 = some x := hx
              rw [e] at h1
              injection h1 with h1
              simp at h1
              exact .inr (by omega)
          have hA5l : ∀ x, blk A5 = some x → x < w.heap.size := fun x hx => by
            rcases hA5 with h | h
            · exact hBg2 x (by rw [← h]; exact hx)
            · rw [h] at hx; cases hx
          have hnew : Rd (w7.setCell ⟨ge, 8, none⟩ (.slice A7 (k + 1) c7)) Bn (fin.map (Value.int .i64)) := ((Rd.of_own hoB).keep hc7 (fun x hx h => by have h1 := hBl x hx; have h2 := hDl x h; omega)).keep hcS (fun x hx (e : x = ge) => by have h1 := hBl x hx; omega)
          have bx8 := (bx5.keep hc7 hgD).set 8 (.slice A7 (k + 1) c7)
          go_roundw
          case rel => exact ⟨k + 1, dl ++ [⟨Bn, cb, fin, tr, le⟩], st3.1, st3.2, A7, c7, A5, c5, by omega, by go_num, by rw [List.length_append, HL.out]; rfl, by simpa using bx8, by
              rw [dfC_app]
              exact hcS.ownS hown7 (fun x hx (e : x = ge) => by rcases hA7 x hx with h | h; (have := hDl x h; omega); omega), (by
              intro d1 hd1
              rcases List.mem_append.1 hd1 with hd1 | hd1
              · obtain ⟨g1, g2, g3⟩ := HDS.out d1 hd1
                exact ⟨((g1.keep hcW (fun x hx (e : x = p) => by have := g3 x hx; omega)).keep hc7 (fun x hx h => (g3 x hx).2.2 h)).keep hcS (fun x hx (e : x = ge) => by have := g3 x hx; omega), g2, fun x hx => by
                  obtain ⟨k1, k2, k3⟩ := g3 x hx
                  exact ⟨k1, by omega, fun h => by rcases hA7 x h with h | h; exact k3 h; omega⟩⟩
              · simp only [List.mem_singleton] at hd1
                subst hd1
                exact ⟨hnew, hnl, fun x hx => by
                  have h1 := hBl x hx
                  exact ⟨by omega, by omega, fun h => by rcases hA7 x h with h | h; (have := hDl x h; omega); omega⟩⟩), (hr5.keep hc7 (fun h => by have := hDl _ h; omega) (fun x hx h => by have h1 := hDl x h; have h2 := hA5l x hx; omega)).keep hcS (fun (e : p = ge) => by omega) (fun x hx (e : x = ge) => by have h2 := hA5l x hx; omega), hA5, by rw [HDV2.out, List.map_append, List.append_assoc]; rfl, HST2.out, ((hc.trans hcW (fun x hx => .inl (.inl hx))).trans hc7 (fun x hx => .inr (by have := hDl x hx; omega))).trans hcS (fun x hx => .inl (.inr hx))⟩
          case measure => simp [intOf]; omega
      · have hend : (defsR (N - k) (lk, ys)) = ([], lk, ys) := by
          by_cases hkn : k < N
          · cases lk
            · exact absurd ⟨hkn, rfl⟩ hgo
            · rw [defsR_lack]
          · rw [show N - k = 0 by omega]; rfl
        have hdv := HDV.out
        have hsv := HST.out
        rw [hend] at hdv hsv
        rw [List.append_nil] at hdv
        have HOUT := Lib.hid (show ∃ (dl' : List Df) (D' : Option Addr) (dc' : Nat) (ys : List Int) (Ar : Option Addr) (cr : Nat), dl'.length ≤ 255 ∧ BoxAt wr ge 32 #[.int .i64 id, .int .i64 ver, .int .i64 tm, .int .i64 ty, .int .i64 node, .int .i64 m, .string (strOfNums nb), .slice Ad bs.length cd, .slice D' dl'.length dc'] ∧ RdDf wr D' dl' ∧ (∀ d ∈ dl', d.ns.length ≤ 255 ∧ ∀ x, In d.A x → base ≤ x) ∧ (∀ x, In D' x → base ≤ x) ∧ RAt 67 wr p Ar cr st.1 ys ∧ dv = dl'.map Df.v ∧ Chg (fun x => x = p ∨ x = ge) w10 wr from ⟨dl, D, dc, ys, Ar, cr, by have := HL.out; omega, by rw [HL.out]; exact bx, ⟨Rd.of_own ho, fun d1 hd1 => (HDS.out d1 hd1).1⟩, fun d1 hd1 => ⟨(HDS.out d1 hd1).2.1, fun x hx => ((HDS.out d1 hd1).2.2 x hx).1⟩, fun x hx => (own_lt ho hx).1, by rw [hsv]; exact hr, hdv, hc⟩)
        clear hdv hsv hend HDV HST
        by_cases hkn : k < N
        · have hlk : lk = true := by
            cases lk
            · exact absurd ⟨hkn, rfl⟩ hgo
            · rfl
          subst hlk
          have n1 : (0 : Int) < (N : Int) - (k : Int) := by omega
          go_wp2_with fail
          go_meet
          exact HOUT.out
        · have n1 : ¬ (0 : Int) < (N : Int) - (k : Int) := by omega
          go_wp2_with fail
          go_meet
          exact HOUT.out
  case rest =>
    obtain ⟨dl, D, dc, ys, Ar, cr, hl255, bx, hD, hns, hDo, hr, hdv, hc⟩ := hcut
    subst hdv
    have hcw : Chg (fun _ => False) w wc := (hcV.trans hS.ch (fun x hx => .inr (by rcases hx with hx | hx <;> omega))).trans hc (fun x hx => .inr (by rcases hx with hx | hx <;> omega))
    have bz := (bzV.keep hS.ch (fun hx => by rcases hx with hx | hx <;> omega)).keep hc (fun hx => by rcases hx with hx | hx <;> omega)
    have hRdw := hRd2.keep hc (fun x hx hx2 => by have h1 := hAd x hx; rcases hx2 with hx2 | hx2 <;> omega)
    have hBr := HB.out.keep hcw (fun _ _ h => h)
    have hwb : w.heap.size ≤ base := by omega
    have hnl2 : (strOfNums nb).size ≤ 140737488355328 := by rw [strOfNums_size]; have := HN.out; omega
    have hfb := EvF.lay_byt (⟨id, ver, tm, ty, node, m, strOfNums nb, Ad, cd, bs, D, dc, dl⟩ : EvF) HBSB.out
    have hlay := rlayG_any id ver tm ty node m (strOfNums nb) Ad bs.length cd bs D dl.length dc dl wc hRdw rfl (by omega) hnl2 hD rfl (by omega) (fun d1 hd1 => by have := (hns d1 hd1).1; omega)
    have hLK : EvV.right ⟨id, ver, tm, ty, node, m, nb, bs, dl.map Df.v⟩ = true → EvV.lay ⟨id, ver, tm, ty, node, m, nb, bs, dl.map Df.v⟩ = xs → st.1 = false := HLK.out
    have HL2 := Lib.hid hLK
    clear hLK HLK hS bzV hRd2 hcV HBS
    have HDO := Lib.hid hDo
    have HNS := Lib.hid hns
    have HFB := Lib.hid hfb
    clear hDo hns hfb
    have q0 := bx.cell 0 rfl
    have q1 := bx.cell 1 rfl
    have q2 := bx.cell 2 rfl
    have q3 := bx.cell 3 rfl
    have q4 := bx.cell 4 rfl
    have q5 := bx.cell 5 rfl
    have q6 := bx.cell 6 rfl
    have q7 := bx.cell 7 rfl
    have q8 := bx.cell 8 rfl
    cases hb : rightEB id ver tm ty node m (strOfNums nb) bs.length (dl.map Df.v)
    · have hlay2 := hlay.mono (R' := fun e w' => e = .returned (.tuple #[.slice none 0 0, .int .i64 1]) ∧ Chg (fun _ => False) wc w') (fun e w' h => by
        rcases h with ⟨h | h, hc⟩
        · rw [hb] at h; cases h.1
        · exact ⟨h.2, hc⟩)
      have HBB := Lib.hid hb
      clear hlay hb
      go_wp2_with (go_at_call 26; go_must (refine hlay2.mono ?_; rintro e w11 ⟨rfl, hc11⟩; have bz12 := bz.keep hc11 (fun h => h); have t0 := bz12.cell 0 rfl; have t1 := bz12.cell 1 rfl; have t2 := bz12.cell 2 rfl; have t3 := bz12.cell 3 rfl; have t4 := bz12.cell 4 rfl; have t5 := bz12.cell 5 rfl; have t6 := bz12.cell 6 rfl; have t7 := bz12.cell 7 rfl; have t8 := bz12.cell 8 rfl; have z0 := bz12.fz 0; have z1 := bz12.fz 1; have z2 := bz12.fz 2; have z3 := bz12.fz 3; have z4 := bz12.fz 4; have z5 := bz12.fz 5; have z6 := bz12.fz 6; have z7 := bz12.fz 7; have z8 := bz12.fz 8))
      (try simp only [Exit.inBlock, Exit.then])
      refine bodyPost_ret (results_cell_row_tmp rfl _ _ w.heap.size _ _ _ _ rfl (BoxAt.set9 bz12 _ _ _ _ _ _ _ _ _) Tryz.underlying32 rfl evSize) rfl ?_
      exact ⟨.inr ⟨fun h => by have h1 := h.1; rw [EvV.right] at h1; simp only at h1; rw [HBB.out] at h1; exact Bool.noConfusion h1, rfl⟩, (hcw.trans hc11 (fun x hx => hx.elim)).trans (chg_set9 _ w.heap.size _ _ _ _ _ _ _ _ _) (fun x hx => .inr (by rw [hx]; exact Nat.le_refl _))⟩
    · have hlay2 := hlay.mono (R' := fun e w' => (∃ A' c', e = .returned (.tuple #[.slice A' (evGB id ver tm ty node m (strOfNums nb) bs (dl.map Df.v)).length c', .int .i64 0]) ∧ Rd w' A' ((evGB id ver tm ty node m (strOfNums nb) bs (dl.map Df.v)).map (Value.int .u8))) ∧ Chg (fun _ => False) wc w') (fun e w' h => by
        rcases h with ⟨⟨_, A', c', h1, h2, _⟩ | h, hc⟩
        · exact ⟨⟨A', c', h1, h2⟩, hc⟩
        · rw [hb] at h; cases h.1)
      have hevl := evGB_len hb
      have HBB := Lib.hid hb
      clear hlay hb
      obtain ⟨fin, hfin⟩ : ∃ fin, fin = evGB id ver tm ty node m (strOfNums nb) bs (dl.map Df.v) := ⟨_, rfl⟩
      rw [← hfin] at hlay2 hevl
      have HFN := Lib.hid hfin
      clear hfin
      have hcv := fun (w' : World) (C : Option Addr) (n' e : Nat) (ys : List Int) (g : ys.length = n') (h : Rd w' C (ys.map (Value.int .u8))) => run_convert_rd (P := Tryz.prog) w' 24 9 5 Tryz.underlying24 Tryz.underlying5 Tryz.underlying9 C n' e ys g h
      have HCV := Lib.hid hcv
      clear hcv
      obtain ⟨lk, hlk⟩ : ∃ lk, lk = st.1 := ⟨_, rfl⟩
      rw [← hlk] at hr
      have HLK2 := Lib.hid hlk
      clear hlk
      cases lk
      · by_cases heq : fin = xs
        · have HEQ := Lib.hid heq
          clear heq
          obtain ⟨sa, hsa⟩ : ∃ sa, sa = strOfNums xs := ⟨_, rfl⟩
          have HSA := Lib.hid hsa
          clear hsa
          go_wp2_with (go_at_call 26; go_must (refine hlay2.mono ?_; rintro e w11 ⟨⟨A11, c11, rfl, ho11⟩, hc11⟩; have hbE12 := bx.keep hc11 (fun h => h); have bz12 := bz.keep hc11 (fun h => h); have v1 := (HCV.out w11 A11 _ c11 fin rfl ho11); rw [HEQ.out, ← HSA.out, ← HEQ.out] at v1; have v2 := HCV.out w11 B n d xs HN.out (hBr.keep hc11 (fun _ _ h => h)); rw [← HSA.out] at v2; have lc := (hr.keep hc11 (fun h => h) (fun _ _ h => h)).cell1; have s0 := hbE12.cell 0 rfl; have s1 := hbE12.cell 1 rfl; have s2 := hbE12.cell 2 rfl; have s3 := hbE12.cell 3 rfl; have s4 := hbE12.cell 4 rfl; have s5 := hbE12.cell 5 rfl; have s6 := hbE12.cell 6 rfl; have s7 := hbE12.cell 7 rfl; have s8 := hbE12.cell 8 rfl; have t0 := bz12.cell 0 rfl; have t1 := bz12.cell 1 rfl; have t2 := bz12.cell 2 rfl; have t3 := bz12.cell 3 rfl; have t4 := bz12.cell 4 rfl; have t5 := bz12.cell 5 rfl; have t6 := bz12.cell 6 rfl; have t7 := bz12.cell 7 rfl; have t8 := bz12.cell 8 rfl; have z0 := bz12.fz 0; have z1 := bz12.fz 1; have z2 := bz12.fz 2; have z3 := bz12.fz 3; have z4 := bz12.fz 4; have z5 := bz12.fz 5; have z6 := bz12.fz 6; have z7 := bz12.fz 7; have z8 := bz12.fz 8))
          (try simp only [Exit.inBlock, Exit.then])
          refine bodyPost_ret (results_cell_row_tmp rfl _ _ w.heap.size _ _ _ _ rfl (BoxAt.set9 bz12 _ _ _ _ _ _ _ _ _) Tryz.underlying32 rfl evSize) rfl ?_
          have hcS := chg_set9 w11 w.heap.size (.int .i64 id) (.int .i64 ver) (.int .i64 tm) (.int .i64 ty) (.int .i64 node) (.int .i64 m) (.string (strOfNums nb)) (.slice Ad bs.length cd) (.slice D dl.length dc)
          exact ⟨.inl ⟨HBB.out, by rw [← HEQ.out, HFN.out]; rfl, Ad, cd, D, dc, dl, rfl, (hRdw.keep hc11 (fun _ _ h => h)).keep hcS (fun x hx (e : x = w.heap.size) => by have := hAd x hx; omega), (hD.still hc11).keep hcS (fun _ x hx (e : x = w.heap.size) => by have := HDO.out x hx; omega) (fun d1 hd1 _ x hx (e : x = w.heap.size) => by have := (HNS.out d1 hd1).2 x hx; omega), rfl, ⟨fun _ x hx => by have := hAd x hx; omega, fun _ x hx => by have := HDO.out x hx; omega, fun d1 hd1 _ x hx => by have := (HNS.out d1 hd1).2 x hx; omega⟩⟩, (hcw.trans hc11 (fun x hx => hx.elim)).trans hcS (fun x hx => .inr (by rw [hx]; exact Nat.le_refl _))⟩
        · have hse : ¬ strOfNums fin = strOfNums xs := fun e => heq ((strs_iff (by rw [HFN.out]; exact HFB.out) hby).1 e)
          obtain ⟨sa, hsa⟩ : ∃ sa, sa = strOfNums fin := ⟨_, rfl⟩
          obtain ⟨sb, hsb⟩ : ∃ sb, sb = strOfNums xs := ⟨_, rfl⟩
          rw [← hsa, ← hsb] at hse
          have HSA := Lib.hid hsa
          have HSB := Lib.hid hsb
          have f1 : ¬ sa.toList = sb.toList := fun e => hse (toList_inj e)
          have f2 : (sa.toList == sb.toList) = false := by simpa using f1
          have f3 : decide (sa = sb) = false := by simpa using hse
          have HEQ := Lib.hid heq
          clear hsa hsb heq
          go_wp2_with (go_at_call 26; go_must (refine hlay2.mono ?_; rintro e w11 ⟨⟨A11, c11, rfl, ho11⟩, hc11⟩; have bz12 := bz.keep hc11 (fun h => h); have v1 := (HCV.out w11 A11 _ c11 fin rfl ho11); rw [← HSA.out] at v1; have v2 := HCV.out w11 B n d xs HN.out (hBr.keep hc11 (fun _ _ h => h)); rw [← HSB.out] at v2; have lc := (hr.keep hc11 (fun h => h) (fun _ _ h => h)).cell1; have t0 := bz12.cell 0 rfl; have t1 := bz12.cell 1 rfl; have t2 := bz12.cell 2 rfl; have t3 := bz12.cell 3 rfl; have t4 := bz12.cell 4 rfl; have t5 := bz12.cell 5 rfl; have t6 := bz12.cell 6 rfl; have t7 := bz12.cell 7 rfl; have t8 := bz12.cell 8 rfl; have z0 := bz12.fz 0; have z1 := bz12.fz 1; have z2 := bz12.fz 2; have z3 := bz12.fz 3; have z4 := bz12.fz 4; have z5 := bz12.fz 5; have z6 := bz12.fz 6; have z7 := bz12.fz 7; have z8 := bz12.fz 8))
          (try simp only [Exit.inBlock, Exit.then])
          refine bodyPost_ret (results_cell_row_tmp rfl _ _ w.heap.size _ _ _ _ rfl (BoxAt.set9 bz12 _ _ _ _ _ _ _ _ _) Tryz.underlying32 rfl evSize) rfl ?_
          exact ⟨.inr ⟨fun h => HEQ.out (by rw [HFN.out]; exact h.2), rfl⟩, (hcw.trans hc11 (fun x hx => hx.elim)).trans (chg_set9 _ w.heap.size _ _ _ _ _ _ _ _ _) (fun x hx => .inr (by rw [hx]; exact Nat.le_refl _))⟩
      · go_wp2_with (go_at_call 26; go_must (refine hlay2.mono ?_; rintro e w11 ⟨⟨A11, c11, rfl, ho11⟩, hc11⟩; have bz12 := bz.keep hc11 (fun h => h); have lc := (hr.keep hc11 (fun h => h) (fun _ _ h => h)).cell1; have t0 := bz12.cell 0 rfl; have t1 := bz12.cell 1 rfl; have t2 := bz12.cell 2 rfl; have t3 := bz12.cell 3 rfl; have t4 := bz12.cell 4 rfl; have t5 := bz12.cell 5 rfl; have t6 := bz12.cell 6 rfl; have t7 := bz12.cell 7 rfl; have t8 := bz12.cell 8 rfl; have z0 := bz12.fz 0; have z1 := bz12.fz 1; have z2 := bz12.fz 2; have z3 := bz12.fz 3; have z4 := bz12.fz 4; have z5 := bz12.fz 5; have z6 := bz12.fz 6; have z7 := bz12.fz 7; have z8 := bz12.fz 8))
        (try simp only [Exit.inBlock, Exit.then])
        refine bodyPost_ret (results_cell_row_tmp rfl _ _ w.heap.size _ _ _ _ rfl (BoxAt.set9 bz12 _ _ _ _ _ _ _ _ _) Tryz.underlying32 rfl evSize) rfl ?_
        exact ⟨.inr ⟨fun h => by have h1 := HL2.out h.1 h.2; rw [← HLK2.out] at h1; exact Bool.noConfusion h1, rfl⟩, (hcw.trans hc11 (fun x hx => hx.elim)).trans (chg_set9 _ w.heap.size _ _ _ _ _ _ _ _ _) (fun x hx => .inr (by rw [hx]; exact Nat.le_refl _))⟩
theorem rreadG_any (B : Option Addr) (n d : Nat) (xs : List Int) (w : World) (h : Rd w B (xs.map (Value.int .u8))) (hn : xs.length = n) (hnd : n ≤ d) (hBo : ∀ x, blk B = some x → x < w.heap.size) (hn2 : n ≤ 140737488355328) (hby : ∀ x ∈ xs, 0 ≤ x ∧ x ≤ 255) :
    Calls Tryz.prog 40 #[.slice B n d] w (ReadGave w xs (readV xs)) :=
  (rreadY_any B n d xs w h hn hnd hBo hn2 hby).mono fun e w' h => h.gave
end Go.Proofs.YtngfimjbgopgjaaGreatDoor
