/- Packets and the net in memory; contracts of package net. -/
import Derived.Test.YtngfimjbgopgjaaIt
import Derived.Test.YtngfimjbgopgjaaOct
import Derived.Lib.SliceRun
namespace Go.Proofs.Ytngfimjbgopgjaa
open Go.RowKit
set_option linter.unusedVariables false

theorem pkInfo : (Try.prog.info? 69).map (fun i => (i.zero, i.size, i.bytes)) = some (some (.agg #[.int .i64 0, .int .i64 0, .slice none 0 0]), 3, 40) := by kernel_rfl

/-- A packet: from, to, the address and the capacity of its bytes, the bytes. -/
structure Pk where
  f : Int
  t : Int
  A : Option Addr
  c : Nat
  bs : List Int
/-- What a packet tells. -/
def Pk.v (p : Pk) : Int × Int × List Int := (p.f, p.t, p.bs)
/-- Packets, cell by cell. -/
def pkC : List Pk → List Value
  | [] => []
  | p :: l => .int .i64 p.f :: .int .i64 p.t :: .slice p.A p.bs.length p.c :: pkC l
theorem pkC_len (l : List Pk) : (pkC l).length = l.length * 3 := by
  induction l with
  | nil => rfl
  | cons x l ih => simp only [pkC, List.length_cons, ih]; omega
theorem pkC_app (l m : List Pk) : pkC (l ++ m) = pkC l ++ pkC m := by
  induction l with
  | nil => rfl
  | cons x l ih => simp [pkC, ih]
theorem pkC_one (l : List Pk) : ∀ u ∈ pkC l, u.oneCell' = true := by
  induction l with
  | nil => intro u hu; cases hu
  | cons x l ih =>
    intro u hu
    simp only [pkC, List.mem_cons] at hu
    rcases hu with rfl | rfl | rfl | hu
    · rfl
    · rfl
    · rfl
    · exact ih u hu
theorem pkC_get (l : List Pk) (k : Nat) (h : k < l.length) :
    (pkC l)[k * 3]? = some (.int .i64 l[k].f) ∧ (pkC l)[k * 3 + 1]? = some (.int .i64 l[k].t) ∧ (pkC l)[k * 3 + 2]? = some (.slice l[k].A l[k].bs.length l[k].c) := by
  induction l generalizing k with
  | nil => simp at h
  | cons x l ih =>
    cases k with
    | zero => exact ⟨rfl, rfl, rfl⟩
    | succ k =>
      have := ih k (by simpa using h)
      rw [show (k + 1) * 3 = k * 3 + 1 + 1 + 1 by omega]
      simpa [pkC] using this
theorem pkC_drop (l : List Pk) (k : Nat) : (pkC l).drop (k * 3) = pkC (l.drop k) := by
  induction l generalizing k with
  | nil => simp [pkC]
  | cons x l ih =>
    cases k with
    | zero => simp
    | succ k =>
      rw [show (k + 1) * 3 = k * 3 + 1 + 1 + 1 by omega]
      simpa [pkC] using ih k
theorem pkC_take (l : List Pk) (k : Nat) : (pkC l).take (k * 3) = pkC (l.take k) := by
  induction l generalizing k with
  | nil => simp [pkC]
  | cons x l ih =>
    cases k with
    | zero => simp [pkC]
    | succ k =>
      rw [show (k + 1) * 3 = k * 3 + 1 + 1 + 1 by omega]
      simpa [pkC] using ih k

/-- A net behind the pointer to block g: a row of packets of its own, each one's bytes in a block of their own; how many were lost. -/
structure NetAt (w : World) (base g : Nat) (A : Option Addr) (c : Nat) (ps : List Pk) (lost : Int) : Prop where
  net : w.heap[g]? = some (.cells #[.slice A ps.length c, .int .i64 lost] 115 (0, 0))
  row : w.ownsRow base 69 3 (.slice A ps.length c) ps.length (pkC ps)
  low : base ≤ g
  far : ¬ In A g
  rds : ∀ p ∈ ps, Rd w p.A (p.bs.map (Value.int .u8))
  apart : ∀ p ∈ ps, p.bs ≠ [] → ∀ x, blk p.A = some x → base ≤ x ∧ x ≠ g ∧ ¬ In A x
/-- The net's own blocks: those that its calls turn. -/
def nCore (g : Nat) (A : Option Addr) : Nat → Prop := fun x => x = g ∨ In A x
/-- The blocks of packets' bytes. -/
def nByt (ps : List Pk) : Nat → Prop := fun x => ∃ p ∈ ps, p.bs ≠ [] ∧ blk p.A = some x

section
variable {w w' : World} {base g c : Nat} {A : Option Addr} {ps : List Pk} {lost : Int}
theorem NetAt.c0 (h : NetAt w base g A c ps lost) : w.cell? ⟨g, 0, none⟩ = some (.slice A ps.length c) := cell_of_row w g 0 #[_, _] _ (0, 0) h.net
theorem NetAt.c1 (h : NetAt w base g A c ps lost) : w.cell? ⟨g, 1, none⟩ = some (.int .i64 lost) := cell_of_row w g 1 #[_, _] _ (0, 0) h.net
theorem NetAt.fz (h : NetAt w base g A c ps lost) (k : Nat) : w.frozen? ⟨g, k, none⟩ = false := by simp [World.frozen?, h.net]
theorem NetAt.lt (h : NetAt w base g A c ps lost) : g < w.heap.size := (Array.getElem?_eq_some_iff.1 h.net).1
theorem NetAt.rd (h : NetAt w base g A c ps lost) : Rd w A (pkC ps) := Rd.of_own h.row
theorem NetAt.keep {S : Nat → Prop} (h : NetAt w base g A c ps lost) (hc : Chg S w w') (h1 : ∀ x, S x → ¬ nCore g A x ∧ ¬ nByt ps x) : NetAt w' base g A c ps lost where
  net := hc.heap_some h.net (fun hs => (h1 g hs).1 (.inl rfl))
  row := hc.ownS h.row (fun x hx hs => (h1 x hs).1 (.inr hx))
  low := h.low
  far := h.far
  rds := fun p hp => (h.rds p hp).keep' hc (fun hne x hx hs => (h1 x hs).2 ⟨p, hp, by rintro e; rw [e] at hne; exact hne rfl, hx⟩)
  apart := h.apart
theorem NetAt.core_lt (h : NetAt w base g A c ps lost) : ∀ x, nCore g A x → base ≤ x ∧ x < w.heap.size := by
  rintro x (rfl | hx)
  · exact ⟨h.low, h.lt⟩
  · exact own_lt h.row hx
theorem NetAt.byt_lt (h : NetAt w base g A c ps lost) : ∀ x, nByt ps x → base ≤ x ∧ x < w.heap.size := by
  rintro x ⟨p, hp, hne, hx⟩
  exact ⟨(h.apart p hp hne x hx).1, (h.rds p hp).old (by simpa using hne) x hx⟩
end
/-- What a call on the net leaves: the net with other packets; only its own blocks have turned; its new blocks are new ones. -/
def Netted (w w' : World) (base g : Nat) (A : Option Addr) (ps ps' : List Pk) (lost' : Int) : Prop :=
  ∃ A' c', NetAt w' base g A' c' ps' lost' ∧ Chg (nCore g A) w w' ∧ (∀ x, nCore g A' x → nCore g A x ∨ w.heap.size ≤ x) ∧ (∀ x, nByt ps' x → nByt ps x ∨ w.heap.size ≤ x)
theorem Netted.refl {w : World} {base g c : Nat} {A : Option Addr} {ps : List Pk} {lost : Int} (h : NetAt w base g A c ps lost) : Netted w w base g A ps ps lost :=
  ⟨A, c, h, Chg.refl _ _, fun x hx => .inl hx, fun x hx => .inl hx⟩

theorem newNet_any (w : World) : Calls Try.prog 67 #[] w fun e w' => e = .returned (.pointer (some ⟨w.heap.size, 0, none⟩)) ∧ NetAt w' w.heap.size w.heap.size none 0 [] 0 ∧ Chg (fun _ => False) w w' := by
  go_enter Try.func67, Try.ntmps67
  go_wp2_with fail
  go_ret
  exact ⟨rfl, ⟨heap_alloc_new w _, World.ownsRow_nil _ _ _ _, Nat.le_refl _, (by intro h; cases h), (by intro p hp; cases hp), (by intro p hp; cases hp)⟩, (Chg.refl _ _).alloc _⟩

theorem netIs_any (w : World) (base g c : Nat) (A : Option Addr) (ps : List Pk) (lost k : Int) (h : NetAt w base g A c ps lost) :
    Calls Try.prog 110 #[.pointer (some ⟨g, 0, none⟩), .int .i64 k] w fun e w' => e = .returned (.bool (decide (0 ≤ k) && decide (k < ps.length))) ∧ w = w' := by
  have c0 := h.c0
  by_cases h1 : 0 ≤ k
  · by_cases h2 : k < ps.length
    · go_enter Try.func110, Try.ntmps110
      go_wp2_with fail
      go_ret
      exact ⟨by simp [h1, h2], rfl⟩
    · go_enter Try.func110, Try.ntmps110
      go_wp2_with fail
      go_ret
      exact ⟨by simp [h1, h2], rfl⟩
  · go_enter Try.func110, Try.ntmps110
    go_wp2_with fail
    go_ret
    exact ⟨by rw [decide_eq_false (show ¬ 0 ≤ k by omega)]; rfl, rfl⟩
theorem netLen_any (w : World) (base g c : Nat) (A : Option Addr) (ps : List Pk) (lost : Int) (h : NetAt w base g A c ps lost) :
    Calls Try.prog 70 #[.pointer (some ⟨g, 0, none⟩)] w fun e w' => e = .returned (.int .i64 ps.length) ∧ w = w' := by
  have c0 := h.c0
  go_enter Try.func70, Try.ntmps70
  go_wp2_with fail
  go_ret
  exact ⟨rfl, rfl⟩
theorem netLost_any (w : World) (base g c : Nat) (A : Option Addr) (ps : List Pk) (lost : Int) (h : NetAt w base g A c ps lost) :
    Calls Try.prog 73 #[.pointer (some ⟨g, 0, none⟩)] w fun e w' => e = .returned (.int .i64 lost) ∧ w = w' := by
  have c1 := h.c1
  go_enter Try.func73, Try.ntmps73
  go_wp2_with fail
  go_ret
  exact ⟨rfl, rfl⟩

/-- Fresh bytes: they read so, and lie in a new block, if they are any. -/
def Fresh (w w' : World) (A : Option Addr) (bs : List Int) : Prop := Rd w' A (bs.map (Value.int .u8)) ∧ (bs ≠ [] → ∀ x, blk A = some x → w.heap.size ≤ x ∧ x < w'.heap.size)

set_option maxHeartbeats 1000000 in
set_option maxRecDepth 20000 in
theorem cloneB_any (A : Option Addr) (n c : Nat) (bs : List Int) (w : World) (h : Rd w A (bs.map (Value.int .u8))) (hn : bs.length = n) (hn2 : n ≤ 140737488355328) :
    Calls Try.prog 118 #[.slice A n c] w fun e w' => ∃ A' c', e = .returned (.slice A' n c') ∧ Fresh w w' A' bs ∧ Chg (fun _ => False) w w' := by
  subst hn
  obtain ⟨i0, hi, hz0, hz1, hz2⟩ := info_parts byteInfo
  have q : ∀ (w : World) (a : Option Addr) (n c n' c' : Nat), (binOp .eql 34 (.slice a n c) (.slice none n' c')).run Try.prog w = .ok (.bool a.isNone) w := fun w a n c n' c' => Lib.run_eql_slice_nil w _ _ a n c n' c' Try.underlying34
  have hl1 : 0 + bs.length ≤ maxLen := by simp only [maxLen]; omega
  have hl2 : (0 + bs.length) * 1 ≤ 140737488355328 := by omega
  have hmade : (w.alloc (.cells #[] 5)).ownsRow w.heap.size 5 1 (.slice (some ⟨w.heap.size, 0, none⟩) 0 0) 0 [] := World.ownsRow_made w #[] 0 (Nat.le_refl _) (by decide) rfl
  rcases A with _ | ad
  · have hl : bs = [] := by
      rcases h with h | ⟨b, o, e, _⟩
      · rcases bs with _ | ⟨x, l⟩
        · rfl
        · cases h
      · cases e
    subst hl
    go_enter Try.func118, Try.ntmps118
    go_wp2_with fail
    go_ret
    exact ⟨none, 0, rfl, ⟨Rd.nil _ _, fun h => absurd rfl h⟩, Chg.refl _ _⟩
  · go_enter Try.func118, Try.ntmps118
    go_wp2_with (at_builtin; refine wpList_append_rd _ rfl (.tmp 5) (.tmp 6) 34 rfl w.heap.size 5 i0 _ 1 1 Try.underlying34 hi hz0 hz1 hz2 rfl (by decide) (some ⟨w.heap.size, 0, none⟩) 0 0 [] rfl hmade (some ad) bs.length c (bs.map (Value.int .u8)) rfl (by simp) (Rd.alloc h _) (u8s_one _) hl1 hl2 (by simp) ?_; intro A2 c2 w2 hown2 hg2 hb2)
    go_ret
    simp only [Nat.zero_add, List.nil_append] at hown2
    exact ⟨A2, c2, by simp, ⟨Rd.of_own hown2, fun _ x hx => own_lt hown2 hx⟩, ((Chg.refl _ w).alloc _).trans hg2 (by intro x hx; cases hx; exact .inr (Nat.le_refl _))⟩

theorem pkSize : (Try.prog.info? 69).map (·.size) = some 3 := by kernel_rfl
/-- A packet in a box. -/
def BoxPk (w : World) (g : Nat) (f t : Int) (s : Value) : Prop := w.heap[g]? = some (.cells #[.int .i64 f, .int .i64 t, s] 69 (0, 0))

section
variable {w w' : World} {g : Nat} {f t : Int} {s : Value}
theorem BoxPk.new (w : World) (f t : Int) (s : Value) : BoxPk (w.alloc (.cells #[.int .i64 f, .int .i64 t, s] 69)) w.heap.size f t s := heap_alloc_new w _
theorem BoxPk.c0 (h : BoxPk w g f t s) : w.cell? ⟨g, 0, none⟩ = some (.int .i64 f) := cell_of_row w g 0 #[_, _, _] _ (0, 0) h
theorem BoxPk.c1 (h : BoxPk w g f t s) : w.cell? ⟨g, 1, none⟩ = some (.int .i64 t) := cell_of_row w g 1 #[_, _, _] _ (0, 0) h
theorem BoxPk.c2 (h : BoxPk w g f t s) : w.cell? ⟨g, 2, none⟩ = some s := cell_of_row w g 2 #[_, _, _] _ (0, 0) h
theorem BoxPk.fz (h : BoxPk w g f t s) (k : Nat) : w.frozen? ⟨g, k, none⟩ = false := by unfold BoxPk at h; simp [World.frozen?, h]
theorem BoxPk.lt (h : BoxPk w g f t s) : g < w.heap.size := (Array.getElem?_eq_some_iff.1 h).1
theorem BoxPk.keep {S : Nat → Prop} (h : BoxPk w g f t s) (hc : Chg S w w') (hg : ¬ S g) : BoxPk w' g f t s := hc.heap_some h hg
theorem BoxPk.set2 (h : BoxPk w g f t s) (s' : Value) : BoxPk (w.setCell ⟨g, 2, none⟩ s') g f t s' := by
  unfold BoxPk at *
  simp [World.setCell, Array.getElem?_modify, h]
theorem BoxPk.set3 (h : BoxPk w g f t s) (f' t' : Int) (s' : Value) : BoxPk (((w.setCell ⟨g, 0, none⟩ (.int .i64 f')).setCell ⟨g, 1, none⟩ (.int .i64 t')).setCell ⟨g, 2, none⟩ s') g f' t' s' := by
  unfold BoxPk at *
  simp [World.setCell, Array.getElem?_modify, h]
end

set_option maxHeartbeats 1000000 in
set_option maxRecDepth 20000 in
theorem copied_any (f t : Int) (A : Option Addr) (n c : Nat) (bs : List Int) (w : World) (h : Rd w A (bs.map (Value.int .u8))) (hn : bs.length = n) (hn2 : n ≤ 140737488355328) :
    Calls Try.prog 108 #[.agg #[.int .i64 f, .int .i64 t, .slice A n c]] w fun e w' => ∃ A' c', e = .returned (.agg #[.int .i64 f, .int .i64 t, .slice A' n c']) ∧ Fresh w w' A' bs ∧ Chg (fun _ => False) w w' := by
  have hr1 : Rd ((w.alloc (.cells #[.int .i64 f, .int .i64 t, .slice A n c] 69)).alloc (.cells #[.int .i64 0, .int .i64 0, .slice none 0 0] 69)) A (bs.map (Value.int .u8)) := (h.alloc _).alloc _
  have b1 : BoxPk ((w.alloc (.cells #[.int .i64 f, .int .i64 t, .slice A n c] 69)).alloc (.cells #[.int .i64 0, .int .i64 0, .slice none 0 0] 69)) w.heap.size f t (.slice A n c) := (BoxPk.new w f t _).keep (S := fun _ => False) ((Chg.refl _ _).alloc _) (fun h => h)
  have b2 : BoxPk ((w.alloc (.cells #[.int .i64 f, .int .i64 t, .slice A n c] 69)).alloc (.cells #[.int .i64 0, .int .i64 0, .slice none 0 0] 69)) (w.heap.size + 1) 0 0 (.slice none 0 0) := by
    have := BoxPk.new (w.alloc (.cells #[.int .i64 f, .int .i64 t, .slice A n c] 69)) 0 0 (.slice none 0 0)
    simpa using this
  have hc0 : Chg (fun _ => False) w ((w.alloc (.cells #[.int .i64 f, .int .i64 t, .slice A n c] 69)).alloc (.cells #[.int .i64 0, .int .i64 0, .slice none 0 0] 69)) := ((Chg.refl _ _).alloc _).alloc _
  go_enter Try.func108, Try.ntmps108
  go_wp2_with (go_at_call 118; go_must (refine (cloneB_any A n c bs _ hr1 hn hn2).mono ?_; rintro e w3 ⟨A3, c3, rfl, hf3, hc3⟩; replace b1 := b1.keep hc3 (fun h => h); replace b2 := b2.keep hc3 (fun h => h); have q0 := b1.c0; have q1 := b1.c1; have q2 := b1.c2; have z0 := b1.fz 0; have z1 := b1.fz 1; have z2 := b1.fz 2; have r0 := b2.c0; have r1 := b2.c1; have r2 := b2.c2; have y0 := b2.fz 0; have y1 := b2.fz 1; have y2 := b2.fz 2))
  have b3 : BoxPk (w3.setCell ⟨w.heap.size, 2, none⟩ (.slice A3 n c3)) (w.heap.size + 1) 0 0 (.slice none 0 0) := b2.keep (S := fun x => x = w.heap.size) ((Chg.refl (fun x => x = w.heap.size) w3).setCell (p := ⟨w.heap.size, 2, none⟩) (.inl (rfl : w.heap.size = w.heap.size)) _) (by omega)
  have hcA : Chg (fun _ => False) w w3 := hc0.trans hc3 (fun x hx => hx.elim)
  have hcB : ∀ (u : Value), Chg (fun x => x = w.heap.size ∨ x = w.heap.size + 1) w3 ((((w3.setCell ⟨w.heap.size, 2, none⟩ (.slice A3 n c3)).setCell ⟨w.heap.size + 1, 0, none⟩ (.int .i64 f)).setCell ⟨w.heap.size + 1, 1, none⟩ (.int .i64 t)).setCell ⟨w.heap.size + 1, 2, none⟩ (.slice A3 n c3)) := fun u =>
    ((((Chg.refl (fun x => x = w.heap.size ∨ x = w.heap.size + 1) w3).setCell (p := ⟨w.heap.size, 2, none⟩) (.inl (.inl rfl)) _).setCell (p := ⟨w.heap.size + 1, 0, none⟩) (.inl (.inr rfl)) _).setCell (p := ⟨w.heap.size + 1, 1, none⟩) (.inl (.inr rfl)) _).setCell (p := ⟨w.heap.size + 1, 2, none⟩) (.inl (.inr rfl)) _
  (try simp only [Exit.inBlock, Exit.then])
  refine bodyPost_ret (results_cell_row rfl _ _ (w.heap.size + 1) _ _ _ _ rfl (BoxPk.set3 b3 f t (.slice A3 n c3)) Try.underlying69 rfl pkSize) rfl ?_
  have hout : bs ≠ [] → Off (fun x => x = w.heap.size ∨ x = w.heap.size + 1) A3 := fun hne x hx hs => by
    have h1 := (hf3.2 hne x hx).1
    simp at h1
    omega
  exact ⟨A3, c3, rfl, ⟨hf3.1.keep' (hcB (.int .i64 0)) (fun hne => hout (by rintro rfl; exact hne rfl)), fun hne x hx => by
    have h1 := (hf3.2 hne x hx).1
    have h2 := (hf3.2 hne x hx).2
    have h3 := (hcB (.int .i64 0)).size
    simp at h1
    exact ⟨by omega, by omega⟩⟩, hcA.trans (hcB (.int .i64 0)) (fun x hx => .inr (by omega))⟩
end Go.Proofs.Ytngfimjbgopgjaa
