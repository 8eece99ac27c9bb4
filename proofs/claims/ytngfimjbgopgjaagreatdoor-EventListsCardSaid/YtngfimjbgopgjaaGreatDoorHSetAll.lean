/- HRaw, DefSet, HSet, in one text (merge.py). -/
import Derived.Test.YtngfimjbgopgjaaGreatDoorMemArgs
import Derived.Test.YtngfimjbgopgjaaGreatDoorDef
/- Raw Defs in memory. -/
namespace Go.Proofs.YtngfimjbgopgjaaGreatDoor
open Go.RowKit
set_option linter.unusedVariables false

/-- A raw Def that came in. -/
structure RawD where
  tr : Int
  le : Int
  A : Option Addr
  n : Nat
  c : Nat
  ns : List Int
/-- RawDef i of the slice is v. -/
structure RawDIs (w : World) (A : Option Addr) (i : Nat) (v : RawD) : Prop where
  ex : ∃ b o, A = some ⟨b, o, none⟩ ∧ w.cell? ⟨b, o + i * 3, none⟩ = some (.int .i64 v.tr) ∧ w.cell? ⟨b, o + i * 3 + 1, none⟩ = some (.int .i64 v.le) ∧ w.cell? ⟨b, o + i * 3 + 2, none⟩ = some (.slice v.A v.n v.c)
  rd : Rd w v.A (v.ns.map (Value.int .i64))
  len : v.ns.length = v.n
  most : v.n ≤ 17592186044416
theorem RawDIs.still {w w' : World} {A : Option Addr} {i : Nat} {v : RawD} (h : RawDIs w A i v) (hc : Chg (fun _ => False) w w') : RawDIs w' A i v := by
  obtain ⟨b, o, e, h0, h1, h2⟩ := h.ex
  exact ⟨⟨b, o, e, hc.cell_some h0 (fun h => h), hc.cell_some h1 (fun h => h), hc.cell_some h2 (fun h => h)⟩, h.rd.keep hc (fun _ _ h => h), h.len, h.most⟩
/-- A []RawDef. -/
def RawDs (w : World) (A : Option Addr) (n c : Nat) : Prop := n ≤ c ∧ c ≤ maxLen ∧ ∃ f : Nat → RawD, ∀ i, i < n → RawDIs w A i (f i)

end Go.Proofs.YtngfimjbgopgjaaGreatDoor

/- One Def of a row changed: its needs, its tries, its lease. -/
namespace Go.Proofs.YtngfimjbgopgjaaGreatDoor
open Go.RowKit
set_option linter.unusedVariables false

theorem dfC_set0 (A : Option Addr) (c : Nat) (ns : List Int) : ∀ (l : List Df) (k : Nat) (h : k < l.length), (dfC l).set (k * 3) (.slice A ns.length c) = dfC (l.set k ⟨A, c, ns, l[k].tr, l[k].le⟩)
  | [], k, h => by simp at h
  | x :: l, 0, h => rfl
  | x :: l, k + 1, h => by
    have := dfC_set0 A c ns l k (by simpa using h)
    rw [show (k + 1) * 3 = k * 3 + 1 + 1 + 1 by omega]
    simpa [dfC] using this
theorem dfC_set1 (t : Int) : ∀ (l : List Df) (k : Nat) (h : k < l.length), (dfC l).set (k * 3 + 1) (.int .i64 t) = dfC (l.set k ⟨l[k].A, l[k].c, l[k].ns, t, l[k].le⟩)
  | [], k, h => by simp at h
  | x :: l, 0, h => rfl
  | x :: l, k + 1, h => by
    have := dfC_set1 t l k (by simpa using h)
    rw [show (k + 1) * 3 + 1 = k * 3 + 1 + 1 + 1 + 1 by omega]
    simpa [dfC] using this
theorem dfC_set2 (t : Int) : ∀ (l : List Df) (k : Nat) (h : k < l.length), (dfC l).set (k * 3 + 2) (.int .i64 t) = dfC (l.set k ⟨l[k].A, l[k].c, l[k].ns, l[k].tr, t⟩)
  | [], k, h => by simp at h
  | x :: l, 0, h => rfl
  | x :: l, k + 1, h => by
    have := dfC_set2 t l k (by simpa using h)
    rw [show (k + 1) * 3 + 2 = k * 3 + 2 + 1 + 1 + 1 by omega]
    simpa [dfC] using this
end Go.Proofs.YtngfimjbgopgjaaGreatDoor

/- One Def of a row of the call's own changed, in memory. -/
namespace Go.Proofs.YtngfimjbgopgjaaGreatDoor
open Go.RowKit
set_option linter.unusedVariables false

/-- A row that a literal makes is the call's own. -/
theorem own_lit (w : World) (base : Nat) (e : TypeId) (size n : Nat) (cs : Array Value) (hb : base ≤ w.heap.size) (hm : n ≤ maxLen) (hs : cs.size = n * size) :
    (w.alloc (.cells cs e)).ownsRow base e size (.slice (some ⟨w.heap.size, 0, none⟩) n n) n cs.toList :=
  ⟨by simpa using hs, .inr ⟨w.heap.size, n, cs, rfl, hb, heap_alloc_new w _, Nat.le_refl _, hm, hs, by rw [List.take_of_length_le (by simp [hs])]⟩⟩
/-- Defs of a row of the call's own, each one's needs beside it. -/
structure DefsAt (w : World) (base g dn dc : Nat) (dl : List Df) : Prop where
  own : w.ownsRow base 85 3 (.slice (some ⟨g, 0, none⟩) dn dc) dn (dfC dl)
  len : dl.length = dn
  ns : ∀ d ∈ dl, d.ns.length ≤ 255 ∧ Rd w d.A (d.ns.map (Value.int .i64)) ∧ ∀ x, In d.A x → base ≤ x ∧ x ≠ g
theorem DefsAt.lt {w : World} {base g dn dc : Nat} {dl : List Df} (h : DefsAt w base g dn dc dl) : base ≤ g ∧ g < w.heap.size := own_lt h.own rfl
theorem DefsAt.rd {w : World} {base g dn dc : Nat} {dl : List Df} (h : DefsAt w base g dn dc dl) : RdDf w (some ⟨g, 0, none⟩) dl := ⟨Rd.of_own h.own, fun d hd => (h.ns d hd).2.1⟩
theorem DefsAt.still {S : Nat → Prop} {w w' : World} {base g dn dc : Nat} {dl : List Df} (h : DefsAt w base g dn dc dl) (hc : Chg (fun _ => False) w w') : DefsAt w' base g dn dc dl :=
  ⟨hc.own h.own (fun _ _ h => h), h.len, fun d hd => ⟨(h.ns d hd).1, (h.ns d hd).2.1.keep hc (fun _ _ h => h), (h.ns d hd).2.2⟩⟩
theorem DefsAt.put {w : World} {base g dn dc : Nat} {dl : List Df} (h : DefsAt w base g dn dc dl) (k : Nat) (d : Df) (j : Nat) (u : Value) (hset : (dfC dl).set j u = dfC (dl.set k d)) (h1 : d.ns.length ≤ 255) (h2 : Rd w d.A (d.ns.map (Value.int .i64))) (h3 : ∀ x, In d.A x → base ≤ x ∧ x ≠ g) :
    DefsAt (w.setCell ⟨g, j, none⟩ u) base g dn dc (dl.set k d) := by
  have hS : Chg (· = g) w (w.setCell ⟨g, j, none⟩ u) := (Chg.refl (· = g) w).setCell (p := ⟨g, j, none⟩) (.inl rfl) _
  refine ⟨by rw [← hset]; exact (h.own.stored j u).1, by rw [List.length_set]; exact h.len, fun d1 hd1 => ?_⟩
  rcases List.mem_or_eq_of_mem_set hd1 with hm | rfl
  · obtain ⟨g1, g2, g3⟩ := h.ns d1 hm
    exact ⟨g1, g2.keep hS (fun x hx e => (g3 x hx).2 e), g3⟩
  · exact ⟨h1, h2.keep hS (fun x hx e => (h3 x hx).2 e), h3⟩
/-- What cutoverhand.Defs gives: some Defs, in memory of its own. -/
def DefsGave (w : World) (e : Ending) (w' : World) : Prop := ∃ (D : Option Addr) (dn dc : Nat) (dl : List Df), e = .returned (.slice D dn dc) ∧ RdDf w' D dl ∧ dl.length = dn ∧ dn ≤ 6 ∧ (∀ d ∈ dl, d.ns.length ≤ 255 ∧ ∀ x, In d.A x → w.heap.size ≤ x) ∧ (∀ x, In D x → w.heap.size ≤ x) ∧ Chg (fun _ => False) w w'
theorem DefsAt.fin {w w' : World} {base g dn dc : Nat} {dl : List Df} (h : DefsAt w' base g dn dc dl) (hb : base = w.heap.size) (hd : dn ≤ 6) (hc : Chg (fun _ => False) w w') : DefsGave w (.returned (.slice (some ⟨g, 0, none⟩) dn dc)) w' :=
  ⟨_, _, _, dl, rfl, h.rd, h.len, hd, fun d hd => ⟨(h.ns d hd).1, fun x hx => by rw [← hb]; exact ((h.ns d hd).2.2 x hx).1⟩, fun x hx => by rw [← hb]; exact (own_lt h.own hx).1, hc⟩
end Go.Proofs.YtngfimjbgopgjaaGreatDoor
