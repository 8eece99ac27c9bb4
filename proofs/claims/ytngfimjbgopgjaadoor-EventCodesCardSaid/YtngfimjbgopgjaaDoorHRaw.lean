/- Raw Defs in memory. -/
import Derived.Test.YtngfimjbgopgjaaDoorMem
namespace Go.Proofs.YtngfimjbgopgjaaDoor
open Go.RowKit
set_option linter.unusedVariables false

/-- A raw Def that came in. -/
structure RawD where
  tr : Int
  le : Int
  A : Option Addr
  n : Nat
  c : Nat
  ns : List Int
/-- RawDef i of the slice is v. -/
structure RawDIs (w : World) (A : Option Addr) (i : Nat) (v : RawD) : Prop where
  ex : ∃ b o, A = some ⟨b, o, none⟩ ∧ w.cell? ⟨b, o + i * 3, none⟩ = some (.int .i64 v.tr) ∧ w.cell? ⟨b, o + i * 3 + 1, none⟩ = some (.int .i64 v.le) ∧ w.cell? ⟨b, o + i * 3 + 2, none⟩ = some (.slice v.A v.n v.c)
  rd : Rd w v.A (v.ns.map (Value.int .i64))
  len : v.ns.length = v.n
  most : v.n ≤ 17592186044416
theorem RawDIs.still {w w' : World} {A : Option Addr} {i : Nat} {v : RawD} (h : RawDIs w A i v) (hc : Chg (fun _ => False) w w') : RawDIs w' A i v := by
  obtain ⟨b, o, e, h0, h1, h2⟩ := h.ex
  exact ⟨⟨b, o, e, hc.cell_some h0 (fun h => h), hc.cell_some h1 (fun h => h), hc.cell_some h2 (fun h => h)⟩, h.rd.keep hc (fun _ _ h => h), h.len, h.most⟩
/-- A []RawDef. -/
def RawDs (w : World) (A : Option Addr) (n c : Nat) : Prop := n ≤ c ∧ c ≤ maxLen ∧ ∃ f : Nat → RawD, ∀ i, i < n → RawDIs w A i (f i)

end Go.Proofs.YtngfimjbgopgjaaDoor
